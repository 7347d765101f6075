/- Walk of layer 3: FramesAlone. -/
import Derived.Test.YtcgiceebcombeaaC3k
namespace Go.Proofs.Ytcgiceebcombeaa
open Go.RowKit

def fl (ps : List (List UInt8)) : List UInt8 := ps.flatMap frameL
theorem fl_take (ps : List (List UInt8)) (k : Nat) (hk : k < ps.length) : fl (ps.take (k + 1)) = fl (ps.take k) ++ frameL ps[k] := by
  have e : ∀ (a : List (List UInt8)) (b : List UInt8), fl (a ++ [b]) = fl a ++ frameL b := fun a b => by simp [fl]
  rw [List.take_succ_eq_append_getElem hk, e]
theorem fl_le (ps : List (List UInt8)) (k : Nat) : (fl (ps.take k)).length ≤ (fl ps).length := by
  have e : fl ps = fl (ps.take k) ++ fl (ps.drop k) := by
    unfold fl
    rw [← List.flatMap_append, List.take_append_drop]
  rw [e, List.length_append]; omega
theorem chain_take {l : List UInt8} : ∀ {a b : Nat} {ps : List (List UInt8)}, Chain l a ps b → a ≤ l.length → (l.drop a).take (b - a) = fl ps
  | _, _, [], h, _ => by cases h; simp [fl]
  | a, b, p :: ps, ⟨m, h1, h2⟩, ha => by
    obtain ⟨_, _, hm, hml, ht⟩ := frame_next h1
    rw [Int.toNat_natCast] at hm ht
    have ih := chain_take h2 hml
    have hb := (chain_end h2 hml).2
    have e : fl (p :: ps) = frameL p ++ fl ps := rfl
    rw [e, ← ih, show b - a = (frameL p).length + (b - m) by omega, List.take_add, ht, List.drop_drop, ← hm]
theorem whole_take {l : List UInt8} {ps : List (List UInt8)} {n : Nat} (h : WholeL l ps n) : l.take n = fl ps := by
  have := chain_take h.1 (Nat.zero_le _)
  rw [List.drop_zero, Nat.sub_zero] at this
  exact this

set_option maxRecDepth 100000 in
set_option maxHeartbeats 8000000 in
theorem framesAlone_walk (s : ByteArray) (a : Int) (hs : s.size ≤ maxLen) (_ : (Lit.int .i64 a).wf = true) (w : World) :
    Calls Try.prog 9 #[.string s, .int .i64 a] w fun e w' => e = .returned (.bool true) ∧ Below w.heap.size w w' := by
  unfold maxLen at hs
  by_cases hk : s.size ≤ 20000
  · have XW := Lib.hid (whole_any s (by omega))
    cases hx : nextL s.data.toList a with
    | none =>
      have HX := Lib.hid (next_no (by omega) hx)
      clear hx
      go_enter Try.func9, Try.ntmps9
      go_wp2_with fail
      refine (HX.out _).mono ?_
      rintro e w2 ⟨rfl, B2⟩
      go_wp2_with fail
      refine (XW.out _).mono ?_
      rintro e w3 ⟨ps, n, v, rfl, hW, hO, b3⟩
      have B3 := B2.trans (b3.mono B2.size)
      have hcs := chain_small hW.1
      have hce := chain_end hW.1 (Nat.zero_le _)
      have hte := whole_take hW
      rw [bytes_len] at hce
      have hfl : (fl ps).length ≤ n := by rw [← hte, List.length_take]; omega
      have HTE := Lib.hid hte
      have HCS := Lib.hid hcs
      have HO := Lib.hid (own_strs hO)
      clear hW hO hte hcs
      obtain ⟨av, cv, rfl, hc⟩ := HO.out
      have HC := Lib.hid hc
      clear hc
      go_wp2_with fail
      go_loopw [12, 13] (fun t p wr => ∃ k : Nat, k ≤ ps.length ∧ p = .int .i64 k ∧ t = .string (str (fl (ps.take k))) ∧ Below w3.heap.size w3 wr) (fun _ p _ => ps.length - (intOf p).toNat)
      case atStart => exact ⟨0, by omega, rfl, rfl, Below.refl _ _⟩
      case round =>
        obtain ⟨k, hk2, rfl, rfl, hB⟩ := hrel
        have hBs := hB.size
        by_cases hlt : k < ps.length
        · obtain ⟨b, off, rfl, hbl, hcell⟩ := HC.out (fun h => by have := congrArg List.length h; rw [List.length_map, List.length_nil] at this; omega)
          have x1 : wr.cell? ⟨b, off + k, none⟩ = some (.string (str ps[k])) := by
            rw [hB.cell (p := ⟨b, off + k, none⟩) hbl, hcell k (by rw [List.length_map]; exact hlt), List.getElem_map]
          have HF := Lib.hid (frame_yes (str ps[k]) (by rw [str_size]; exact HCS.out _ (List.getElem_mem hlt)))
          rw [str_list] at HF
          have HT := Lib.hid (show str (fl (ps.take k)) ++ str (frameL ps[k]) = str (fl (ps.take (k + 1))) by rw [fl_take ps k hlt, str_append])
          have hz1 : (str (fl (ps.take k))).size ≤ 20000 := by rw [str_size]; have := fl_le ps k; omega
          have hz2 : (str (frameL ps[k])).size ≤ 20000 := by
            have h5 := (frame_size ps[k]).2
            have h6 := HCS.out _ (List.getElem_mem hlt)
            rw [str_size]; omega
          clear hcell
          generalize str (frameL ps[k]) = f at *
          generalize str ps[k] = p0 at *
          go_wp2_with fail
          refine (HF.out _).mono ?_
          rintro e w4 ⟨rfl, b4⟩
          go_wp2_with fail
          rw [HT.out]
          go_roundw
          case rel => exact ⟨k + 1, by omega, by go_num, rfl, hB.trans (b4.mono hBs)⟩
          case measure => simp [intOf]; omega
        · obtain rfl : k = ps.length := by omega
          rw [List.take_length]
          have hck2 : ((str (fl ps)).toList == (s.extract 0 n).toList) = true := by
            rw [beq_iff_eq, ByteArray.toList_eq, ByteArray.toList_eq, extract_list, List.drop_zero, Nat.sub_zero, HTE.out]; rfl
          have hnle : n ≤ s.size := hce.1
          have i0 : (0 : Int) ≤ n := by omega
          have B4 := B3.trans (hB.mono B3.size)
          generalize str (fl ps) = t at *
          go_wp2_with fail
          refine (works_any _).mono ?_
          rintro e w5 ⟨rfl, b5⟩
          go_wp2
          go_ret
          exact ⟨rfl, B4.trans (b5.mono B4.size)⟩
    | some x =>
      obtain ⟨p, m⟩ := x
      have HX := Lib.hid (next_yes (by omega) hx)
      obtain ⟨h0, h1, h2, h3, h4⟩ := frame_next hx
      have hfs := (frame_size p).1
      obtain ⟨c, rfl⟩ : ∃ c : Nat, a = (c : Int) := ⟨a.toNat, by omega⟩
      rw [Int.toNat_natCast] at h2 h4
      rw [bytes_len] at h3
      have HF := Lib.hid (frame_yes (str p) (by rw [str_size]; exact h1))
      rw [str_list] at HF
      have hck : (!((s.extract c m).toList == (str (frameL p)).toList)) = false := by
        rw [Bool.not_eq_false', beq_iff_eq, ByteArray.toList_eq, ByteArray.toList_eq, extract_list, show m - c = (frameL p).length by omega, h4]; rfl
      have hcm : c < m := by omega
      generalize str (frameL p) = f at *
      clear hx h0 h1 h2 h4 hfs
      go_enter Try.func9, Try.ntmps9
      go_wp2_with fail
      refine (HX.out _).mono ?_
      rintro e w1 ⟨rfl, B1⟩
      go_wp2_with fail
      refine (HF.out _).mono ?_
      rintro e w2 ⟨rfl, b2⟩
      have B2 := B1.trans (b2.mono B1.size)
      go_wp2_with fail
      refine (XW.out _).mono ?_
      rintro e w3 ⟨ps, n, v, rfl, hW, hO, b3⟩
      have B3 := B2.trans (b3.mono B2.size)
      have hcs := chain_small hW.1
      have hce := chain_end hW.1 (Nat.zero_le _)
      have hte := whole_take hW
      rw [bytes_len] at hce
      have hfl : (fl ps).length ≤ n := by rw [← hte, List.length_take]; omega
      have HTE := Lib.hid hte
      have HCS := Lib.hid hcs
      have HO := Lib.hid (own_strs hO)
      clear hW hO hte hcs
      obtain ⟨av, cv, rfl, hc⟩ := HO.out
      have HC := Lib.hid hc
      clear hc
      go_wp2_with fail
      go_loopw [12, 13] (fun t p wr => ∃ k : Nat, k ≤ ps.length ∧ p = .int .i64 k ∧ t = .string (str (fl (ps.take k))) ∧ Below w3.heap.size w3 wr) (fun _ p _ => ps.length - (intOf p).toNat)
      case atStart => exact ⟨0, by omega, rfl, rfl, Below.refl _ _⟩
      case round =>
        obtain ⟨k, hk2, rfl, rfl, hB⟩ := hrel
        have hBs := hB.size
        by_cases hlt : k < ps.length
        · obtain ⟨b, off, rfl, hbl, hcell⟩ := HC.out (fun h => by have := congrArg List.length h; rw [List.length_map, List.length_nil] at this; omega)
          have x1 : wr.cell? ⟨b, off + k, none⟩ = some (.string (str ps[k])) := by
            rw [hB.cell (p := ⟨b, off + k, none⟩) hbl, hcell k (by rw [List.length_map]; exact hlt), List.getElem_map]
          have HF := Lib.hid (frame_yes (str ps[k]) (by rw [str_size]; exact HCS.out _ (List.getElem_mem hlt)))
          rw [str_list] at HF
          have HT := Lib.hid (show str (fl (ps.take k)) ++ str (frameL ps[k]) = str (fl (ps.take (k + 1))) by rw [fl_take ps k hlt, str_append])
          have hz1 : (str (fl (ps.take k))).size ≤ 20000 := by rw [str_size]; have := fl_le ps k; omega
          have hz2 : (str (frameL ps[k])).size ≤ 20000 := by
            have h5 := (frame_size ps[k]).2
            have h6 := HCS.out _ (List.getElem_mem hlt)
            rw [str_size]; omega
          clear hcell
          generalize str (frameL ps[k]) = f at *
          generalize str ps[k] = p0 at *
          go_wp2_with fail
          refine (HF.out _).mono ?_
          rintro e w4 ⟨rfl, b4⟩
          go_wp2_with fail
          rw [HT.out]
          go_roundw
          case rel => exact ⟨k + 1, by omega, by go_num, rfl, hB.trans (b4.mono hBs)⟩
          case measure => simp [intOf]; omega
        · obtain rfl : k = ps.length := by omega
          rw [List.take_length]
          have hck2 : ((str (fl ps)).toList == (s.extract 0 n).toList) = true := by
            rw [beq_iff_eq, ByteArray.toList_eq, ByteArray.toList_eq, extract_list, List.drop_zero, Nat.sub_zero, HTE.out]; rfl
          have hnle : n ≤ s.size := hce.1
          have i0 : (0 : Int) ≤ n := by omega
          have B4 := B3.trans (hB.mono B3.size)
          generalize str (fl ps) = t at *
          go_wp2_with fail
          refine (works_any _).mono ?_
          rintro e w5 ⟨rfl, b5⟩
          go_wp2
          go_ret
          exact ⟨rfl, B4.trans (b5.mono B4.size)⟩
  · go_enter Try.func9, Try.ntmps9
    go_wp2
    go_ret
    exact ⟨rfl, Below.refl _ _⟩
end Go.Proofs.Ytcgiceebcombeaa
