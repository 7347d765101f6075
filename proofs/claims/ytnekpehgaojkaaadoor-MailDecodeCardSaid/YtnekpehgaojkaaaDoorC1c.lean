/- The contract of the reference's Get. -/
import Derived.Test.YtnekpehgaojkaaaDoorC1b
import Derived.Deep.RegionWith
namespace Go.Proofs.YtnekpehgaojkaaaDoor
open Go.RowKit

theorem part_snoc (l : List UInt8) (a e j : Nat) (h1 : a ≤ j) (h2 : j < e + 1) (h3 : e < l.length) : ((l.drop a).take (e + 1 - a)).drop (j - a) = l[j] :: ((l.drop a).take (e + 1 - a)).drop (j + 1 - a) := by
  have h : j - a < ((l.drop a).take (e + 1 - a)).length := by simp; omega
  rw [List.drop_eq_getElem_cons h]
  have e1 : ((l.drop a).take (e + 1 - a))[j - a] = l[j] := by
    rw [List.getElem_take, List.getElem_drop]; congr 1; omega
  have e2 : j - a + 1 = j + 1 - a := by omega
  rw [e1, e2]
theorem part_end (l : List UInt8) (a e : Nat) : ((l.drop a).take (e + 1 - a)).drop (e + 1 - a) = [] := List.drop_of_length_le (by simp; omega)

theorem extract_list (s : ByteArray) (a b : Nat) : (s.extract a b).data.toList = (s.data.toList.drop a).take (b - a) := by
  rw [ByteArray.data_extract, Array.toList_extract, List.extract_eq_take_drop]
theorem str_eq_iff (l : List UInt8) (s : ByteArray) : ((str l).toList == s.toList) = (l == s.data.toList) := by
  rw [ByteArray.toList_eq, ByteArray.toList_eq]; rfl

/-- What the reference finds, in one of two ways. -/
theorem ref_found (s : ByteArray) (a e : Nat) (ha : a ≤ e) (he : e < s.size) (h9 : e ≤ a + 9) (hall : ∀ j (h : j < s.size), a ≤ j → j < e → 128 ≤ s[j].toNat) (hl : ¬ 128 ≤ s[e].toNat) :
    let F := Marks.val (((s.data.toList.drop a).take (e + 1 - a)).drop (a - a)) % 18446744073709551616
    (!((str (Marks.put (Marks.unfold F))).toList == (s.extract a (e + 1)).toList)) = false ∧ getI s.data.toList a = some (Marks.unfold F, e + 1) ∨
    (!((str (Marks.put (Marks.unfold F))).toList == (s.extract a (e + 1)).toList)) = true ∧ getI s.data.toList a = none := by
  intro F
  have hsz := bytes_len s
  have hlen : e - a < (s.data.toList.drop a).length := by rw [List.length_drop, hsz]; omega
  have hget : ∀ j (h : j < (s.data.toList.drop a).length), (s.data.toList.drop a)[j] = s[a + j]'(by rw [List.length_drop, hsz] at h; omega) := fun j h => by rw [List.getElem_drop]; rfl
  have href := Marks.getF_ref (s.data.toList.drop a) (e - a) hlen
    (fun j h hj => by rw [hget j h]; exact hall _ _ (by omega) (by omega))
    (by
      rw [hget _ hlen]
      have e2 : s[a + (e - a)]'(by omega) = s[e] := by congr 1; omega
      rw [e2]; omega)
  have ee : e - a + 1 = e + 1 - a := by omega
  have eF : Marks.val ((s.data.toList.drop a).take (e - a + 1)) % 18446744073709551616 = F := by
    show _ = Marks.val (((s.data.toList.drop a).take (e + 1 - a)).drop (a - a)) % 18446744073709551616
    rw [ee, Nat.sub_self, List.drop_zero]
  rw [eF, ee] at href
  have hput : Marks.put (Marks.unfold F) = Marks.putF 9 F := by unfold Marks.put; rw [Marks.fold_unfold]
  rw [str_eq_iff, extract_list, hput]
  by_cases hP : Marks.putF 9 F = (s.data.toList.drop a).take (e + 1 - a)
  · refine .inl ⟨by rw [hP]; simp, ?_⟩
    rw [if_pos hP] at href
    have := getI_some (by rw [hsz]; omega) href
    rw [this]; congr 2; omega
  · refine .inr ⟨by simpa using hP, ?_⟩
    rw [if_neg hP] at href
    exact getI_none href

theorem ref_far (s : ByteArray) (a : Nat) (h : ∀ j (h : j < s.size), a ≤ j → j ≤ a + 9 → 128 ≤ s[j].toNat) : getI s.data.toList a = none := by
  refine getI_none (Marks.getF_none_far _ (fun j hj h9 => ?_))
  have hsz := bytes_len s
  have e : (s.data.toList.drop a)[j] = s[a + j]'(by rw [List.length_drop, hsz] at hj; omega) := by rw [List.getElem_drop]; rfl
  rw [e]; exact h _ _ (by omega) (by omega)

set_option maxRecDepth 100000 in
set_option maxHeartbeats 2000000 in
theorem refGet_in (s : ByteArray) (hs : s.size ≤ maxLen) (a : Nat) (ha : a < s.size) (w : World) :
    Calls Tryd.prog 50 #[.string s, .int .i64 (a : Int)] w fun e w' => e = .returned (.tuple #[.int .i64 (gotN (getI s.data.toList a)), .int .i64 (gotX (getI s.data.toList a) : Nat), .bool (getI s.data.toList a).isSome]) ∧ Below w.heap.size w w' := by
  unfold maxLen at hs
  have d1 : decide ((a : Int) < 0) = false := by rw [decide_eq_false_iff_not]; omega
  have d2 : decide (s.size ≤ a) = false := by rw [decide_eq_false_iff_not]; omega
  go_enter Tryd.func50, Tryd.ntmps50
  go_wp2
  go_loop [7] (fun p => ∃ e : Nat, a ≤ e ∧ e ≤ s.size ∧ p = .int .i64 e ∧ Hid (∀ j (h : j < s.size), a ≤ j → j < e → 128 ≤ s[j].toNat)) (fun p => s.size - (intOf p).toNat)
  case atStart => exact ⟨a, by omega, by omega, rfl, Lib.hid (fun j h h1 h2 => by omega)⟩
  case round =>
    obtain ⟨e, he1, he2, rfl, hall⟩ := hrel
    by_cases hlt : e < s.size
    · by_cases h3 : 128 ≤ s[e].toNat
      · go_wp2
        go_round
        case rel => exact ⟨e + 1, by omega, by omega, by go_num, Lib.hid (fun j h h1 h2 => by
          by_cases hj : j = e
          · subst hj; exact h3
          · exact hall.out j h h1 (by omega))⟩
        case measure => simp [intOf]; omega
      · by_cases h9 : e ≤ a + 9
        · have g1 : ((e : Int) == (s.size : Int)) = false := by rw [beq_eq_false_iff_ne]; omega
          go_wp2
          go_loop [8, 9] (fun q p => ∃ m : Nat, a ≤ m ∧ m ≤ e + 1 ∧ p = .int .i64 ((m : Int) - 1) ∧ q = .int .u64 ((Marks.val (((s.data.toList.drop a).take (e + 1 - a)).drop (m - a)) % 18446744073709551616 : Nat) : Int)) (fun _ p => (intOf p + 1 - a).toNat)
          case atStart => exact ⟨e + 1, by omega, by omega, by go_num, by rw [part_end]; rfl⟩
          case round =>
            obtain ⟨m, hm1, hm2, rfl, rfl⟩ := hrel
            by_cases hm3 : a + 1 ≤ m
            · obtain ⟨j, rfl⟩ : ∃ j, m = j + 1 := ⟨m - 1, by omega⟩
              have ej : ((j + 1 : Nat) : Int) - 1 = (j : Int) := by omega
              rw [ej]; clear ej
              have HA := Lib.hid (show IntKind.u64.wrap (IntKind.u64.wrap (((Marks.val (((s.data.toList.drop a).take (e + 1 - a)).drop (j + 1 - a)) % 18446744073709551616 : Nat) : Int) * 128) + (s[j].toNat : Int) % 128) = ((Marks.val (((s.data.toList.drop a).take (e + 1 - a)).drop (j - a)) % 18446744073709551616 : Nat) : Int) by
                rw [part_snoc _ a e j (by omega) (by omega) (by rw [bytes_len]; exact hlt)]
                exact acc_ref s[j] _)
              generalize (Marks.val (((s.data.toList.drop a).take (e + 1 - a)).drop (j + 1 - a)) % 18446744073709551616) = F at *
              go_wp2
              go_round
              case rel => exact ⟨j, by omega, by omega, rfl, by rw [HA.out]⟩
              case measure => simp [intOf]; omega
            · obtain rfl : m = a := by omega
              have hF := Lib.hid (show (Marks.val (((s.data.toList.drop m).take (e + 1 - m)).drop (m - m)) % 18446744073709551616) < 18446744073709551616 from Nat.mod_lt _ (by decide))
              have HR := Lib.hid (ref_found s m e he1 hlt h9 hall.out h3)
              dsimp only at HR
              generalize (Marks.val (((s.data.toList.drop m).take (e + 1 - m)).drop (m - m)) % 18446744073709551616) = F at *
              cases hF2 : ((F : Int) % 2 == 1)
              · have HU := Lib.hid (unfold_ref0 F hF.out hF2)
                go_wp2
                rw [HU.out]
                have n0 := Marks.unfold_lo F hF.out
                have n1 := Marks.unfold_hi F hF.out
                generalize Marks.unfold F = n at *
                have hsl := fun w' => slice_str (P := Tryd.prog) 9 Tryd.underlying9 s m (e + 1) (by omega) (by omega) (m : Int) (IntKind.i64.wrap ((e : Int) + 1)) rfl (by rw [IntWalk.i64_in _ (by omega)]; omega) w'
                go_region_with (go_at_call 48; refine (refPut_any n n0 n1 _).mono ?_; rintro e w' ⟨rfl, hb⟩)
                clear n0 n1 hsl
                go_wp2
                · have ht' : (!((str (Marks.put n)).toList == (s.extract m (e + 1)).toList)) = true := by assumption
                  rcases HR.out with ⟨ht, hg⟩ | ⟨ht, hg⟩
                  · rw [ht] at ht'; cases ht'
                  · go_ret3
                    exact ⟨ret_none hg, (Below.refl w.heap.size w).drew.trans hb⟩
                · have ht' : (!((str (Marks.put n)).toList == (s.extract m (e + 1)).toList)) = false := by assumption
                  rcases HR.out with ⟨ht, hg⟩ | ⟨ht, hg⟩
                  · go_ret3
                    exact ⟨ret_some (y := (e : Int) + 1) hg rfl (by omega), (Below.refl w.heap.size w).drew.trans hb⟩
                  · rw [ht] at ht'; cases ht'
              · have HU := Lib.hid (unfold_ref1 F hF.out hF2)
                go_wp2
                rw [HU.out]
                have n0 := Marks.unfold_lo F hF.out
                have n1 := Marks.unfold_hi F hF.out
                generalize Marks.unfold F = n at *
                have hsl := fun w' => slice_str (P := Tryd.prog) 9 Tryd.underlying9 s m (e + 1) (by omega) (by omega) (m : Int) (IntKind.i64.wrap ((e : Int) + 1)) rfl (by rw [IntWalk.i64_in _ (by omega)]; omega) w'
                go_region_with (go_at_call 48; refine (refPut_any n n0 n1 _).mono ?_; rintro e w' ⟨rfl, hb⟩)
                clear n0 n1 hsl
                go_wp2
                · have ht' : (!((str (Marks.put n)).toList == (s.extract m (e + 1)).toList)) = true := by assumption
                  rcases HR.out with ⟨ht, hg⟩ | ⟨ht, hg⟩
                  · rw [ht] at ht'; cases ht'
                  · go_ret3
                    exact ⟨ret_none hg, (Below.refl w.heap.size w).drew.trans hb⟩
                · have ht' : (!((str (Marks.put n)).toList == (s.extract m (e + 1)).toList)) = false := by assumption
                  rcases HR.out with ⟨ht, hg⟩ | ⟨ht, hg⟩
                  · go_ret3
                    exact ⟨ret_some (y := (e : Int) + 1) hg rfl (by omega), (Below.refl w.heap.size w).drew.trans hb⟩
                  · rw [ht] at ht'; cases ht'
        · have HN := Lib.hid (ref_far s a (fun j h h1 h2 => hall.out j h h1 (by omega)))
          have g1 : ((e : Int) == (s.size : Int)) = false := by rw [beq_eq_false_iff_ne]; omega
          go_wp2
          go_ret3
          exact ⟨ret_none HN.out, Below.refl _ _⟩
    · obtain rfl : e = s.size := by omega
      have HN := Lib.hid (ref_far s a (fun j h h1 h2 => hall.out j h h1 h))
      go_wp2
      go_ret3
      exact ⟨ret_none HN.out, Below.refl _ _⟩

set_option maxRecDepth 100000 in
set_option maxHeartbeats 1000000 in
theorem refGet_any (s : ByteArray) (hs : s.size ≤ maxLen) (a : Int) (w : World) :
    Calls Tryd.prog 50 #[.string s, .int .i64 a] w fun e w' => e = .returned (.tuple #[.int .i64 (gotN (getI s.data.toList a)), .int .i64 (gotX (getI s.data.toList a) : Nat), .bool (getI s.data.toList a).isSome]) ∧ Below w.heap.size w w' := by
  by_cases h0 : a < 0
  · have HN := Lib.hid (show getI s.data.toList a = none by unfold getI; rw [if_neg (by omega)])
    go_enter Tryd.func50, Tryd.ntmps50
    go_wp2
    go_ret3
    exact ⟨ret_none HN.out, Below.refl _ _⟩
  · obtain ⟨b, rfl⟩ := Int.eq_ofNat_of_zero_le (show 0 ≤ a by omega)
    by_cases h1 : b < s.size
    · exact refGet_in s hs b h1 w
    · have HN := Lib.hid (show getI s.data.toList b = none by unfold getI; rw [bytes_len, if_neg (by omega)])
      go_enter Tryd.func50, Tryd.ntmps50
      go_wp2
      go_ret3
      exact ⟨ret_none HN.out, Below.refl _ _⟩
end Go.Proofs.YtnekpehgaojkaaaDoor
