/- The contract of the program's Get. -/
import Derived.Test.YtnekpehgaojkaaaDoorC1a
namespace Go.Proofs.YtnekpehgaojkaaaDoor
open Go.RowKit

/-- The int whose mark stands at a place, and the place behind it. -/
def getI (l : List UInt8) (a : Int) : Option (Int × Nat) := if 0 ≤ a ∧ a < l.length then (Marks.get (l.drop a.toNat)).map (fun x => (x.1, a.toNat + x.2)) else none
def gotN (o : Option (Int × Nat)) : Int := (o.map (·.1)).getD 0
def gotX (o : Option (Int × Nat)) : Nat := (o.map (·.2)).getD 0

theorem bytes_len (s : ByteArray) : s.data.toList.length = s.size := Array.length_toList

/-- Where the loop stands behind i rounds. -/
def Getting (l : List UInt8) (i f : Nat) : Prop :=
  (i < 10 → f < 128 ^ i ∧ Marks.getF 10 l = (Marks.getF (10 - i) (l.drop i)).map (fun x => (f + 128 ^ i * x.1, i + x.2))) ∧ (i = 10 → Marks.getF 10 l = none)

theorem getting_start (l : List UInt8) : Getting l 0 0 := by
  refine ⟨fun _ => ⟨by omega, ?_⟩, fun h => absurd h (by decide)⟩
  show _ = (Marks.getF 10 l).map _
  cases Marks.getF 10 l with
  | none => rfl
  | some x => simp

/-- A byte of 128 or more: on. -/
theorem getting_more {l : List UInt8} {i f : Nat} (hi : i < 10) (h : Getting l i f) (hl : i < l.length) (hc : 128 ≤ l[i].toNat) (v : Int) (hv : v = bits .or .u64 (f : Int) (IntKind.u64.wrap (IntKind.u64.wrap (bits .andNot .u8 (l[i].toNat : Int) 128) * 2 ^ (7 * i))))
    (h0 : 0 ≤ v) : ∃ f' : Nat, v = (f' : Int) ∧ Getting l (i + 1) f' := by
  obtain ⟨hf, hg⟩ := h.1 hi
  have hlt := l[i].toNat_lt
  rw [List.drop_eq_getElem_cons hl] at hg
  by_cases h9 : i = 9
  · refine ⟨v.toNat, by omega, fun h => absurd h (by omega), fun _ => ?_⟩
    subst h9
    rw [hg]
    show (Marks.getF 1 _).map _ = none
    rw [Marks.getF, if_pos hc]; rfl
  · have e := acc_program f l[i].toNat i hlt (by omega) hf (fun h => absurd h h9)
    refine ⟨f + 128 ^ i * (l[i].toNat % 128), by rw [hv, e], fun _ => ⟨?_, ?_⟩, fun h => absurd h (by omega)⟩
    · rw [Nat.pow_succ]
      have h1 : l[i].toNat % 128 ≤ 127 := by omega
      have h2 : 128 ^ i * (l[i].toNat % 128) ≤ 128 ^ i * 127 := Nat.mul_le_mul (Nat.le_refl _) h1
      omega
    · obtain ⟨k, hk⟩ : ∃ k, 10 - i = k + 1 := ⟨9 - i, by omega⟩
      have hk2 : 10 - (i + 1) = k := by omega
      rw [hg, hk, hk2, Marks.getF, if_pos hc]
      cases Marks.getF k (l.drop (i + 1)) with
      | none => rfl
      | some x =>
        have e2 : l[i].toNat % 128 = l[i].toNat - 128 := by omega
        have e3 : 128 ^ (i + 1) * x.1 = 128 ^ i * (128 * x.1) := by rw [Nat.pow_succ, Nat.mul_assoc]
        simp only [Option.map_some, Option.some.injEq, Prod.mk.injEq]
        rw [e2, e3, Nat.mul_add]
        omega

/-- The last byte, which may not be. -/
theorem getting_none {l : List UInt8} {i f : Nat} (hi : i < 10) (h : Getting l i f) (hl : i < l.length) (hc : ¬ 128 ≤ l[i].toNat) (hb : l[i].toNat = 0 ∧ 0 < i ∨ i = 9 ∧ 1 < l[i].toNat) : Marks.getF 10 l = none := by
  obtain ⟨hf, hg⟩ := h.1 hi
  rw [List.drop_eq_getElem_cons hl] at hg
  obtain ⟨k, hk⟩ : ∃ k, 10 - i = k + 1 := ⟨9 - i, by omega⟩
  rw [hg, hk, Marks.getF, if_neg hc, if_pos (by omega)]
  rfl

/-- The text's end, or ten bytes. -/
theorem getting_end {l : List UInt8} {i f : Nat} (hi : i ≤ 10) (h : Getting l i f) (hl : i = 10 ∨ l.length ≤ i) : Marks.getF 10 l = none := by
  by_cases h10 : i = 10
  · exact h.2 h10
  · obtain ⟨hf, hg⟩ := h.1 (by omega)
    rw [hg, List.drop_of_length_le (by omega)]
    obtain ⟨k, hk⟩ : ∃ k, 10 - i = k + 1 := ⟨9 - i, by omega⟩
    rw [hk]; rfl

/-- The last byte. -/
theorem getting_last {l : List UInt8} {i f : Nat} (hi : i < 10) (h : Getting l i f) (hl : i < l.length) (hc : ¬ 128 ≤ l[i].toNat) (hb : ¬ (l[i].toNat = 0 ∧ 0 < i ∨ i = 9 ∧ 1 < l[i].toNat)) :
    ∃ F : Nat, F < 18446744073709551616 ∧ Marks.getF 10 l = some (F, i + 1) ∧ bits .or .u64 (f : Int) (IntKind.u64.wrap (IntKind.u64.wrap (bits .andNot .u8 (l[i].toNat : Int) 128) * 2 ^ (7 * i))) = (F : Int) := by
  obtain ⟨hf, hg⟩ := h.1 hi
  rw [List.drop_eq_getElem_cons hl] at hg
  have hlt := l[i].toNat_lt
  have em : l[i].toNat % 128 = l[i].toNat := by omega
  have e := acc_program f l[i].toNat i hlt (by omega) hf (fun h => by omega)
  obtain ⟨k, hk⟩ : ∃ k, 10 - i = k + 1 := ⟨9 - i, by omega⟩
  rw [hk, Marks.getF, if_neg hc, if_neg (by omega)] at hg
  have hg2 : Marks.getF 10 l = some (f + 128 ^ i * l[i].toNat, i + 1) := by rw [hg]; rfl
  have hlt2 := (Marks.putF_getF 9 l _ _ (by omega) hg2).1
  rw [Marks.pow9] at hlt2
  exact ⟨_, hlt2, hg2, by rw [e, em]⟩

theorem getI_some {l : List UInt8} {a F m : Nat} (ha : a < l.length) (h : Marks.getF 10 (l.drop a) = some (F, m)) : getI l a = some (Marks.unfold F, a + m) := by
  unfold getI Marks.get
  rw [if_pos ⟨by omega, by omega⟩, Int.toNat_natCast, h]; rfl
theorem getI_none {l : List UInt8} {a : Nat} (h : Marks.getF 10 (l.drop a) = none) : getI l a = none := by
  unfold getI Marks.get
  split
  · rw [Int.toNat_natCast, h]; rfl
  · rfl
theorem ret_some {o : Option (Int × Nat)} {n x y : Int} {m : Nat} (h : o = some (n, m)) (hx : x = n) (hy : y = (m : Int)) :
    Ending.returned (.tuple #[.int .i64 x, .int .i64 y, .bool true]) = .returned (.tuple #[.int .i64 (gotN o), .int .i64 (gotX o : Nat), .bool o.isSome]) := by
  subst h; subst hx; subst hy; rfl
theorem ret_none {o : Option (Int × Nat)} (h : o = none) :
    Ending.returned (.tuple #[.int .i64 0, .int .i64 0, .bool false]) = .returned (.tuple #[.int .i64 (gotN o), .int .i64 (gotX o : Nat), .bool o.isSome]) := by
  subst h; rfl

set_option maxRecDepth 100000 in
set_option maxHeartbeats 2000000 in
theorem get_in (s : ByteArray) (hs : s.size ≤ maxLen) (a : Nat) (ha : a < s.size) (w : World) :
    Calls Tryd.prog 49 #[.string s, .int .i64 (a : Int)] w fun e w' => e = .returned (.tuple #[.int .i64 (gotN (getI s.data.toList a)), .int .i64 (gotX (getI s.data.toList a) : Nat), .bool (getI s.data.toList a).isSome]) ∧ w = w' := by
  unfold maxLen at hs
  have d1 : decide ((a : Int) < 0) = false := by rw [decide_eq_false_iff_not]; omega
  have d2 : decide (s.size ≤ a) = false := by rw [decide_eq_false_iff_not]; omega
  by_cases hM : a + 10 < s.size
  · go_enter Tryd.func49, Tryd.ntmps49
    go_wp2
    go_loop [7, 23] (fun q p => ∃ i f : Nat, i ≤ 10 ∧ a + i ≤ s.size ∧ p = .int .i64 i ∧ q = .int .u64 (f : Int) ∧ Getting (s.data.toList.drop a) i f) (fun _ p => 10 - (intOf p).toNat)
    case atStart => exact ⟨0, 0, by omega, by omega, rfl, rfl, getting_start _⟩
    case round =>
      obtain ⟨i, f, hi, hai, rfl, rfl, hG⟩ := hrel
      by_cases hlt : i < 10 ∧ a + i < s.size
      · obtain ⟨h1, h2⟩ := hlt
        have hl : i < (s.data.toList.drop a).length := by rw [List.length_drop, bytes_len]; omega
        have ec : (s.data.toList.drop a)[i] = s[a + i] := by rw [List.getElem_drop]; rfl
        by_cases h3 : 128 ≤ s[a + i].toNat
        · have HN := Lib.hid (getting_more h1 hG hl (by rw [ec]; exact h3) _ rfl (wrap_u64_nonneg _))
          rw [ec] at HN
          have hl' := Lib.hid hl
          clear hG hl ec
          go_wp2
          obtain ⟨f', e, hG'⟩ := HN.out
          go_round
          case rel => exact ⟨i + 1, f', by omega, by omega, by go_num, by rw [e], hG'⟩
          case measure => simp [intOf]; omega
        · by_cases h4 : s[a + i].toNat = 0 ∧ 0 < i ∨ i = 9 ∧ 1 < s[a + i].toNat
          · have HN := Lib.hid (getI_none (getting_none h1 hG hl (by rw [ec]; exact h3) (by rw [ec]; exact h4)))
            clear hG hl ec
            by_cases h5 : s[a + i].toNat = 0
            · have h6 : 0 < i := by omega
              have g5 : ((s[a + i].toNat : Int) == 0) = true := by rw [h5]; rfl
              clear h4 h5
              go_wp2
              go_ret3
              exact ⟨ret_none HN.out, rfl⟩
            · have h6 : i = 9 ∧ 1 < s[a + i].toNat := by omega
              have g5 : ((s[a + i].toNat : Int) == 0) = false := by rw [beq_eq_false_iff_ne]; omega
              have g6 : ((i : Int) == 9) = true := by rw [h6.1]; rfl
              have g7 := h6.2
              clear h4 h5 h6
              go_wp2
              go_ret3
              exact ⟨ret_none HN.out, rfl⟩
          · have HN := Lib.hid (getting_last h1 hG hl (by rw [ec]; exact h3) (by rw [ec]; exact h4))
            rw [ec] at HN
            clear hG hl ec
            obtain ⟨F, hF, hg, he⟩ := HN.out
            have HG := Lib.hid (getI_some (by rw [bytes_len]; exact ha) hg)
            have HE := Lib.hid he
            have HU := Lib.hid (unfold_program F hF)
            clear HN hF hg he
            by_cases h5 : s[a + i].toNat = 0
            · have h6 : ¬ 0 < i := by omega
              have g5 : ((s[a + i].toNat : Int) == 0) = true := by rw [h5]; rfl
              have g6 : ((i : Int) == 9) = false := by rw [beq_eq_false_iff_ne]; omega
              clear h4 h5
              go_wp2
              rw [HE.out]
              go_ret3
              exact ⟨ret_some HG.out HU.out (by omega), rfl⟩
            · have g5 : ((s[a + i].toNat : Int) == 0) = false := by rw [beq_eq_false_iff_ne]; omega
              by_cases h6 : i = 9
              · have g6 : ((i : Int) == 9) = true := by rw [h6]; rfl
                have g7 : ¬ 1 < s[a + i].toNat := by omega
                clear h4 h5 h6
                go_wp2
                rw [HE.out]
                go_ret3
                exact ⟨ret_some HG.out HU.out (by omega), rfl⟩
              · have g6 : ((i : Int) == 9) = false := by rw [beq_eq_false_iff_ne]; omega
                clear h4 h5 h6
                go_wp2
                rw [HE.out]
                go_ret3
                exact ⟨ret_some HG.out HU.out (by omega), rfl⟩
      · have HN := Lib.hid (getI_none (getting_end hi hG (by rw [List.length_drop, bytes_len]; omega)))
        clear hG
        have hge : 10 ≤ i := by omega
        clear hlt
        go_wp2
        go_ret3
        exact ⟨ret_none HN.out, rfl⟩
  · go_enter Tryd.func49, Tryd.ntmps49
    go_wp2
    go_loop [7, 23] (fun q p => ∃ i f : Nat, i ≤ 10 ∧ a + i ≤ s.size ∧ p = .int .i64 i ∧ q = .int .u64 (f : Int) ∧ Getting (s.data.toList.drop a) i f) (fun _ p => 10 - (intOf p).toNat)
    case atStart => exact ⟨0, 0, by omega, by omega, rfl, rfl, getting_start _⟩
    case round =>
      obtain ⟨i, f, hi, hai, rfl, rfl, hG⟩ := hrel
      by_cases hlt : i < 10 ∧ a + i < s.size
      · obtain ⟨h1, h2⟩ := hlt
        have hl : i < (s.data.toList.drop a).length := by rw [List.length_drop, bytes_len]; omega
        have ec : (s.data.toList.drop a)[i] = s[a + i] := by rw [List.getElem_drop]; rfl
        by_cases h3 : 128 ≤ s[a + i].toNat
        · have HN := Lib.hid (getting_more h1 hG hl (by rw [ec]; exact h3) _ rfl (wrap_u64_nonneg _))
          rw [ec] at HN
          have hl' := Lib.hid hl
          clear hG hl ec
          go_wp2
          obtain ⟨f', e, hG'⟩ := HN.out
          go_round
          case rel => exact ⟨i + 1, f', by omega, by omega, by go_num, by rw [e], hG'⟩
          case measure => simp [intOf]; omega
        · by_cases h4 : s[a + i].toNat = 0 ∧ 0 < i ∨ i = 9 ∧ 1 < s[a + i].toNat
          · have HN := Lib.hid (getI_none (getting_none h1 hG hl (by rw [ec]; exact h3) (by rw [ec]; exact h4)))
            clear hG hl ec
            by_cases h5 : s[a + i].toNat = 0
            · have h6 : 0 < i := by omega
              have g5 : ((s[a + i].toNat : Int) == 0) = true := by rw [h5]; rfl
              clear h4 h5
              go_wp2
              go_ret3
              exact ⟨ret_none HN.out, rfl⟩
            · have h6 : i = 9 ∧ 1 < s[a + i].toNat := by omega
              have g5 : ((s[a + i].toNat : Int) == 0) = false := by rw [beq_eq_false_iff_ne]; omega
              have g6 : ((i : Int) == 9) = true := by rw [h6.1]; rfl
              have g7 := h6.2
              clear h4 h5 h6
              go_wp2
              go_ret3
              exact ⟨ret_none HN.out, rfl⟩
          · have HN := Lib.hid (getting_last h1 hG hl (by rw [ec]; exact h3) (by rw [ec]; exact h4))
            rw [ec] at HN
            clear hG hl ec
            obtain ⟨F, hF, hg, he⟩ := HN.out
            have HG := Lib.hid (getI_some (by rw [bytes_len]; exact ha) hg)
            have HE := Lib.hid he
            have HU := Lib.hid (unfold_program F hF)
            clear HN hF hg he
            by_cases h5 : s[a + i].toNat = 0
            · have h6 : ¬ 0 < i := by omega
              have g5 : ((s[a + i].toNat : Int) == 0) = true := by rw [h5]; rfl
              have g6 : ((i : Int) == 9) = false := by rw [beq_eq_false_iff_ne]; omega
              clear h4 h5
              go_wp2
              rw [HE.out]
              go_ret3
              exact ⟨ret_some HG.out HU.out (by omega), rfl⟩
            · have g5 : ((s[a + i].toNat : Int) == 0) = false := by rw [beq_eq_false_iff_ne]; omega
              by_cases h6 : i = 9
              · have g6 : ((i : Int) == 9) = true := by rw [h6]; rfl
                have g7 : ¬ 1 < s[a + i].toNat := by omega
                clear h4 h5 h6
                go_wp2
                rw [HE.out]
                go_ret3
                exact ⟨ret_some HG.out HU.out (by omega), rfl⟩
              · have g6 : ((i : Int) == 9) = false := by rw [beq_eq_false_iff_ne]; omega
                clear h4 h5 h6
                go_wp2
                rw [HE.out]
                go_ret3
                exact ⟨ret_some HG.out HU.out (by omega), rfl⟩
      · have HN := Lib.hid (getI_none (getting_end hi hG (by rw [List.length_drop, bytes_len]; omega)))
        clear hG
        have hge : s.size ≤ a + i := by omega
        clear hlt
        go_wp2
        go_ret3
        exact ⟨ret_none HN.out, rfl⟩

set_option maxRecDepth 100000 in
set_option maxHeartbeats 1000000 in
theorem get_any (s : ByteArray) (hs : s.size ≤ maxLen) (a : Int) (w : World) :
    Calls Tryd.prog 49 #[.string s, .int .i64 a] w fun e w' => e = .returned (.tuple #[.int .i64 (gotN (getI s.data.toList a)), .int .i64 (gotX (getI s.data.toList a) : Nat), .bool (getI s.data.toList a).isSome]) ∧ w = w' := by
  by_cases h0 : a < 0
  · have HN := Lib.hid (show getI s.data.toList a = none by unfold getI; rw [if_neg (by omega)])
    go_enter Tryd.func49, Tryd.ntmps49
    go_wp2
    go_ret3
    exact ⟨ret_none HN.out, rfl⟩
  · obtain ⟨b, rfl⟩ := Int.eq_ofNat_of_zero_le (show 0 ≤ a by omega)
    by_cases h1 : b < s.size
    · exact get_in s hs b h1 w
    · have HN := Lib.hid (show getI s.data.toList b = none by unfold getI; rw [bytes_len, if_neg (by omega)])
      go_enter Tryd.func49, Tryd.ntmps49
      go_wp2
      go_ret3
      exact ⟨ret_none HN.out, rfl⟩
end Go.Proofs.YtnekpehgaojkaaaDoor
