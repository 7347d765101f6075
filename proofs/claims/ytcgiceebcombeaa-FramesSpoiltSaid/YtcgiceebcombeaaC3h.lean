/- Walks of layer 3: FramesOne, FramesNext, FramesWhole. -/
import Derived.Test.YtcgiceebcombeaaC3g
namespace Go.Proofs.Ytcgiceebcombeaa
open Go.RowKit

set_option maxRecDepth 100000 in
set_option maxHeartbeats 2000000 in
theorem framesOne_walk (s : ByteArray) (hs : s.size ≤ maxLen) (w : World) :
    Calls Try.prog 3 #[.string s] w fun e w' => e = .returned (.bool true) ∧ Below w.heap.size w w' := by
  unfold maxLen at hs
  by_cases h1 : s.size ≤ 8192
  · have HF := Lib.hid (frame_yes s h1)
    have HR := Lib.hid (refFrame_yes s h1)
    generalize str (frameL s.data.toList) = f at *
    go_enter Try.func3, Try.ntmps3
    go_wp2_with fail
    refine (HF.out _).mono ?_
    rintro e w1 ⟨rfl, b1⟩
    go_wp2_with fail
    refine (HR.out _).mono ?_
    rintro e w2 ⟨rfl, b2⟩
    have B2 := b1.trans (b2.mono b1.size)
    go_wp2_with fail
    refine (works_any _).mono ?_
    rintro e w3 ⟨rfl, b3⟩
    go_wp2
    go_ret
    exact ⟨rfl, B2.trans (b3.mono B2.size)⟩
  · by_cases h2 : s.size ≤ 20000
    · have HF := Lib.hid (frame_no s (by omega))
      have HR := Lib.hid (refFrame_no s (by omega))
      go_enter Try.func3, Try.ntmps3
      go_wp2_with fail
      refine (HF.out _).mono ?_
      rintro e w1 ⟨rfl, rfl⟩
      go_wp2_with fail
      refine (HR.out _).mono ?_
      rintro e w2 ⟨rfl, rfl⟩
      go_wp2_with fail
      refine (works_any _).mono ?_
      rintro e w3 ⟨rfl, b3⟩
      go_wp2
      go_ret
      exact ⟨rfl, b3⟩
    · go_enter Try.func3, Try.ntmps3
      go_wp2
      go_ret
      exact ⟨rfl, Below.refl _ _⟩

/-- Next, in whichever way. -/
def nextP (s : ByteArray) (a : Int) : ByteArray := str (((nextL s.data.toList a).map (·.1)).getD [])
def nextM (s : ByteArray) (a : Int) : Nat := ((nextL s.data.toList a).map (·.2)).getD 0
def nextB (s : ByteArray) (a : Int) : Bool := (nextL s.data.toList a).isSome
theorem next_any (s : ByteArray) (hs : s.size ≤ 1000000) (a : Int) (w : World) :
    Calls Try.prog 13 #[.string s, .int .i64 a] w fun e w' => e = .returned (.tuple #[.string (nextP s a), .int .i64 (nextM s a : Nat), .bool (nextB s a)]) ∧ Below w.heap.size w w' := by
  unfold nextP nextM nextB
  cases h : nextL s.data.toList a with
  | none => exact next_no hs h w
  | some x => obtain ⟨p, m⟩ := x; exact next_yes hs h w
theorem refNext_any (s : ByteArray) (hs : s.size ≤ 1000000) (a : Int) (w : World) :
    Calls Try.prog 14 #[.string s, .int .i64 a] w fun e w' => e = .returned (.tuple #[.string (nextP s a), .int .i64 (nextM s a : Nat), .bool (nextB s a)]) ∧ Below w.heap.size w w' := by
  unfold nextP nextM nextB
  cases h : nextL s.data.toList a with
  | none => exact refNext_no hs h w
  | some x => obtain ⟨p, m⟩ := x; exact refNext_yes hs h w

set_option maxRecDepth 100000 in
set_option maxHeartbeats 2000000 in
theorem framesNext_walk (s : ByteArray) (a : Int) (hs : s.size ≤ maxLen) (_ : (Lit.int .i64 a).wf = true) (w : World) :
    Calls Try.prog 4 #[.string s, .int .i64 a] w fun e w' => e = .returned (.bool true) ∧ Below w.heap.size w w' := by
  unfold maxLen at hs
  by_cases h2 : s.size ≤ 20000
  · have HF := Lib.hid (next_any s (by omega) a)
    have HR := Lib.hid (refNext_any s (by omega) a)
    generalize nextP s a = p at *
    generalize nextM s a = m at *
    generalize nextB s a = b at *
    go_enter Try.func4, Try.ntmps4
    go_wp2_with fail
    refine (HF.out _).mono ?_
    rintro e w1 ⟨rfl, b1⟩
    go_wp2_with fail
    refine (HR.out _).mono ?_
    rintro e w2 ⟨rfl, b2⟩
    have B2 := b1.trans (b2.mono b1.size)
    go_wp2_with fail
    refine (works_any _).mono ?_
    rintro e w3 ⟨rfl, b3⟩
    go_wp2
    go_ret
    exact ⟨rfl, B2.trans (b3.mono B2.size)⟩
  · go_enter Try.func4, Try.ntmps4
    go_wp2
    go_ret
    exact ⟨rfl, Below.refl _ _⟩

/-- A text of one's own is written over. -/
theorem own_write {B : Nat} {w : World} {v : Value} {ts : List ByteArray} (h : StrsOwn B w v ts) (hne : ts ≠ []) :
    ∃ g cap, v = .slice (some ⟨g, 0, none⟩) ts.length cap ∧ B ≤ g ∧ g < w.heap.size ∧ ∃ cur, w.heap[g]? = some (.cells cur 9 (0, 0)) ∧ ts.length ≤ cur.size := by
  obtain ⟨_, h⟩ := h
  rcases h with ⟨_, h0⟩ | ⟨g, cap, cur, rfl, hb, hh, hn, hc, hs, ht⟩
  · exact absurd (List.eq_nil_of_length_eq_zero h0) hne
  · exact ⟨g, cap, rfl, hb, (Array.getElem?_eq_some_iff.1 hh).1, cur, hh, by omega⟩
/-- Block g holds cells that may be written. -/
def Wide (w : World) (g n : Nat) : Prop := ∃ cur, w.heap[g]? = some (.cells cur 9 (0, 0)) ∧ n ≤ cur.size
theorem wide_cell {w : World} {g n : Nat} (h : Wide w g n) (k : Nat) (hk : k < n) : (∃ v, w.cell? ⟨g, k, none⟩ = some v) ∧ w.frozen? ⟨g, k, none⟩ = false := by
  obtain ⟨cur, h, hn⟩ := h
  refine ⟨⟨cur[k]'(by omega), ?_⟩, by simp [World.frozen?, h]⟩
  simp only [World.cell?, h]
  simp [show k < cur.size by omega]
theorem wide_set {w : World} {g n : Nat} (h : Wide w g n) (k : Nat) (v : Value) : Wide (w.setCell ⟨g, k, none⟩ v) g n := by
  obtain ⟨cur, h, hn⟩ := h
  refine ⟨cur.setIfInBounds k v, ?_, by simpa using hn⟩
  simp [World.setCell, Array.getElem?_modify, h]

set_option maxRecDepth 100000 in
set_option maxHeartbeats 4000000 in
theorem framesWhole_walk (s : ByteArray) (hs : s.size ≤ maxLen) (w : World) :
    Calls Try.prog 5 #[.string s] w fun e w' => e = .returned (.bool true) ∧ Below w.heap.size w w' := by
  unfold maxLen at hs
  by_cases h2 : s.size ≤ 20000
  · have HF := Lib.hid (whole_any s (by omega))
    have HR := Lib.hid (refWhole_any s (by omega))
    go_enter Try.func5, Try.ntmps5
    go_wp2_with fail
    refine (HF.out _).mono ?_
    rintro e w1 ⟨ps, n, v, rfl, hW, hO, b1⟩
    have HO := Lib.hid hO
    have hlen : (ps.map str).length ≤ 1000000 := by
      have := (chain_end hW.1 (Nat.zero_le _))
      rw [bytes_len] at this
      rw [List.length_map]; omega
    have HW := Lib.hid hW
    clear hW hO
    go_wp2_with fail
    refine (HR.out _).mono ?_
    rintro e w2 ⟨ps2, n2, v2, rfl, hW2, hO2, b2⟩
    obtain ⟨rfl, rfl⟩ := whole_unique hW2 HW.out
    have HO2 := Lib.hid (own_strs hO2)
    have B2 := b1.trans (b2.mono b1.size)
    have HO1 := Lib.hid (own_below HO.out b2)
    have HS := Lib.hid (same_any hlen (own_strs HO1.out) HO2.out)
    have hO2' := Lib.hid hO2
    have HW2 := Lib.hid hW2
    have hs1 := b1.size
    have hs2 := b2.size
    clear hW2 HW hO2
    by_cases hne : ps2.map str = []
    · have HNE := Lib.hid hne
      obtain ⟨av, cv, rfl, _⟩ := own_strs HO.out
      clear hne HO HO1
      rw [List.length_map] at HS
      go_wp2_with fail
      refine HS.out.mono ?_
      rintro e w3 ⟨rfl, q, rfl⟩
      go_wp2_with fail
      go_loopw [7] (fun p wr => ∃ k : Nat, k ≤ ps2.length ∧ p = .int .i64 k ∧ wr = w2.drewN q) (fun p _ => ps2.length - (intOf p).toNat)
      case atStart => exact ⟨0, by omega, rfl, rfl⟩
      case round =>
        obtain ⟨k, hk, rfl, rfl⟩ := hrel
        have hk0 : ¬ k < ps2.length := by
          have := congrArg List.length HNE.out
          rw [List.length_map, List.length_nil] at this
          omega
        go_wp2_with fail
        refine (whole_any s (by omega) _).mono ?_
        rintro e w4 ⟨ps3, n3, v3, rfl, hW3, hO3, b4⟩
        obtain ⟨rfl, rfl⟩ := whole_unique hW3 HW2.out
        have HS2 := Lib.hid (same_any hlen (own_strs hO3) ((HO2.out.drawn q).below b4))
        have B4 := (below_drewN B2 q).trans (b4.mono (below_drewN B2 q).size)
        clear hO3 hW3
        go_wp2_with fail
        refine HS2.out.mono ?_
        rintro e w5 ⟨rfl, q5, rfl⟩
        go_wp2_with fail
        refine (works_any _).mono ?_
        rintro e w6 ⟨rfl, b6⟩
        go_wp2
        go_ret
        exact ⟨rfl, (below_drewN B4 q5).trans (b6.mono (below_drewN B4 q5).size)⟩
    · obtain ⟨g, cv, rfl, hg1, hg2, cur, hcur, hcn⟩ := own_write HO.out hne
      have HWd : Hid (Wide w2 g (ps2.map str).length) := ⟨cur, (b2.block g hg2).trans hcur, hcn⟩
      have hgv : v2.ownBlock ≠ some g := fun e => by
        have := (World.ownsRow.lt hO2'.out g e).1
        omega
      have HGV := Lib.hid hgv
      clear hgv hcur hcn hne HO HO1
      rw [List.length_map] at HWd hlen HS
      go_wp2_with fail
      refine HS.out.mono ?_
      rintro e w3 ⟨rfl, q, rfl⟩
      go_wp2_with fail
      go_loopw [7] (fun p wr => ∃ k : Nat, k ≤ ps2.length ∧ p = .int .i64 k ∧ Wide wr g ps2.length ∧ w2.grownBy wr (some g)) (fun p _ => ps2.length - (intOf p).toNat)
      case atStart => exact ⟨0, by omega, rfl, HWd.out, rfl, rfl, rfl, Nat.le_refl _, fun _ _ _ => rfl⟩
      case round =>
        obtain ⟨k, hk, rfl, hwd, hgr⟩ := hrel
        have HWk := Lib.hid hwd
        have HGr := Lib.hid hgr
        by_cases hlt : k < ps2.length
        · obtain ⟨⟨x0, hx0⟩, hfz⟩ := wide_cell hwd k hlt
          clear hwd hgr
          go_wp2_with fail
          go_roundw
          case rel => exact ⟨k + 1, by omega, by go_num, wide_set HWk.out k _, HGr.out.os, HGr.out.tape, HGr.out.output, Nat.le_trans HGr.out.size (by simp [World.setCell]), fun i hi hn => (Below.heap_setCell _ _ _ _ (fun e => hn (by rw [e]))).trans (HGr.out.block i hi hn)⟩
          case measure => simp [intOf]; omega
        · obtain rfl : k = ps2.length := by omega
          have HOr : Hid (StrsOwn w1.heap.size wr v2 (ps2.map str)) := World.ownsRow.kept hO2'.out HGr.out (.inr HGV.out)
          have Br : Below w.heap.size w wr := B2.grown HGr.out (by omega) (fun i hi => by cases hi; exact hg1)
          clear hwd hgr
          go_wp2_with fail
          refine (whole_any s (by omega) _).mono ?_
          rintro e w4 ⟨ps3, n3, v3, rfl, hW3, hO3, b4⟩
          obtain ⟨rfl, rfl⟩ := whole_unique hW3 HW2.out
          have HS2 := Lib.hid (same_any (by rw [List.length_map]; exact hlen) (own_strs hO3) ((own_strs HOr.out).below b4))
          have B4 := Br.trans (b4.mono Br.size)
          clear hO3 hW3
          go_wp2_with fail
          refine HS2.out.mono ?_
          rintro e w5 ⟨rfl, q5, rfl⟩
          go_wp2_with fail
          refine (works_any _).mono ?_
          rintro e w6 ⟨rfl, b6⟩
          go_wp2
          go_ret
          exact ⟨rfl, (below_drewN B4 q5).trans (b6.mono (below_drewN B4 q5).size)⟩
  · go_enter Try.func5, Try.ntmps5
    go_wp2
    go_ret
    exact ⟨rfl, Below.refl _ _⟩
end Go.Proofs.Ytcgiceebcombeaa
