/- The walk of RecordsFit. -/
import Derived.Test.YtalilifegclelaaC10q
import Derived.Test.YtalilifegclelaaOpenE
import Derived.Test.YtalilifegclelaaC3y
namespace Go.Proofs.Ytalilifegclelaa
open Go.RowKit

theorem great_yes {w : World} (n : RNum) {ae af : Option Addr} {le lf ce cf : Nat} (h : 500 < le ∨ 1000 < lf) :
    Calls Try.prog 9 #[.agg #[.int .i64 n.kind, .int .i64 n.stream, .int .i64 n.epoch, .int .i64 n.view, .int .i64 n.frm, .int .i64 n.length, .slice ae le ce, .slice af lf cf]] w fun e w' => e = .returned (.bool true) ∧ Below w.heap.size w w' := by
  obtain ⟨w1, e1, b1, s1, g1⟩ := boxed w (recCells n (.slice ae le ce) (.slice af lf cf)) 25
  have E1 := Lib.hid (show w.alloc (.cells #[.int .i64 n.kind, .int .i64 n.stream, .int .i64 n.epoch, .int .i64 n.view, .int .i64 n.frm, .int .i64 n.length, .slice ae le ce, .slice af lf cf] 25) = w1 from e1)
  obtain ⟨c0, c1, c2, c3, c4, c5, c6, c7⟩ := rec_cells g1
  clear e1 g1
  by_cases h5 : 500 < le
  · go_enter Try.func9, Try.ntmps9
    go_wp2_with fail
    rw [E1.out]
    go_wp2
    go_ret
    exact ⟨rfl, b1⟩
  · have h3 : 1000 < lf := by omega
    clear h
    go_enter Try.func9, Try.ntmps9
    go_wp2_with fail
    rw [E1.out]
    go_wp2
    go_ret
    exact ⟨ret_bool (by simp; omega), b1⟩
theorem great_no {w : World} (n : RNum) {ae af : Option Addr} {le lf ce cf : Nat} (h : le ≤ 500) (h2 : lf ≤ 1000) :
    Calls Try.prog 9 #[.agg #[.int .i64 n.kind, .int .i64 n.stream, .int .i64 n.epoch, .int .i64 n.view, .int .i64 n.frm, .int .i64 n.length, .slice ae le ce, .slice af lf cf]] w fun e w' => e = .returned (.bool false) ∧ Below w.heap.size w w' := by
  obtain ⟨w1, e1, b1, s1, g1⟩ := boxed w (recCells n (.slice ae le ce) (.slice af lf cf)) 25
  have E1 := Lib.hid (show w.alloc (.cells #[.int .i64 n.kind, .int .i64 n.stream, .int .i64 n.epoch, .int .i64 n.view, .int .i64 n.frm, .int .i64 n.length, .slice ae le ce, .slice af lf cf] 25) = w1 from e1)
  obtain ⟨c0, c1, c2, c3, c4, c5, c6, c7⟩ := rec_cells g1
  clear e1 g1
  go_enter Try.func9, Try.ntmps9
  go_wp2_with fail
  rw [E1.out]
  go_wp2
  go_ret
  exact ⟨ret_bool (by simp; omega), b1⟩

/-- A record's bytes are few. -/
theorem encR_few {n : RNum} {es : List Ent} {fs : List Spt} (h : mayR n es fs = true) : (encR n es fs).length ≤ 6000 := by
  have h1 := may_small h
  have h2 : es.length = 0 ∨ fs.length = 0 := by
    unfold mayR kindGood at h
    simp only [Bool.and_eq_true, Bool.not_eq_true', Bool.and_eq_false_iff, decide_eq_false_iff_not] at h
    by_cases hk : n.kind = 5
    · rw [if_neg (by omega), if_neg (by omega), if_neg (by omega), if_neg (by omega), if_pos hk] at h
      simp only [Bool.and_eq_true, decide_eq_true_eq] at h
      exact .inl h.2.1.1.2
    · right
      rcases h.1.2 with h2 | h2
      · exact absurd hk h2
      · omega
  have e1 := putL_len n.nums
  have e2 := putL_len [(es.length : Int)]
  have e3 := putL_len [(fs.length : Int)]
  have e4 := entsL_len es
  have e5 := sptsL_len fs
  have e6 : n.nums.length = 6 := rfl
  unfold encR
  simp only [List.length_append, List.length_singleton] at *
  omega

/-- A record that is handed in. -/
theorem RecIn.parts {w : World} {v : Value} {n : RNum} {es : List Ent} {fs : List Spt} (h : RecIn w v n es fs) : ∃ ae ce af cf, v = .agg #[.int .i64 n.kind, .int .i64 n.stream, .int .i64 n.epoch, .int .i64 n.view, .int .i64 n.frm, .int .i64 n.length, .slice ae es.length ce, .slice af fs.length cf] ∧
    RNumOk n ∧ EntsIn w (.slice ae es.length ce) es ∧ SptsIn w (.slice af fs.length cf) fs := by
  obtain ⟨ve, vf, rfl, hn, he, hf⟩ := h
  obtain ⟨ae, ce, rfl, _⟩ := he.1
  obtain ⟨af, cf, rfl, _⟩ := hf.1
  exact ⟨ae, ce, af, cf, rfl, hn, he, hf⟩

set_option maxRecDepth 100000 in
set_option maxHeartbeats 4000000 in
theorem recordsFit_walk (n : RNum) (es : List Ent) (fs : List Spt) (v : Value) (w : World) (hR : RecIn w v n es fs) :
    Calls Try.prog 8 #[v] w fun e w' => e = .returned (.bool true) ∧ Below w.heap.size w w' := by
  obtain ⟨ae, ce, af, cf, rfl, hn, he, hf⟩ := hR.parts
  clear hR
  obtain ⟨w1, e1, b1, s1, g1⟩ := boxed w (recCells n (.slice ae es.length ce) (.slice af fs.length cf)) 25
  have E1 := Lib.hid (show w.alloc (.cells #[.int .i64 n.kind, .int .i64 n.stream, .int .i64 n.epoch, .int .i64 n.view, .int .i64 n.frm, .int .i64 n.length, .slice ae es.length ce, .slice af fs.length cf] 25) = w1 from e1)
  obtain ⟨c0, c1, c2, c3, c4, c5, c6, c7⟩ := rec_cells g1
  have G1 := Lib.hid g1
  clear e1 g1
  by_cases hgr : 500 < es.length ∨ 1000 < fs.length
  · have HG := Lib.hid (great_yes (w := w1) n (ae := ae) (af := af) (ce := ce) (cf := cf) hgr)
    clear hgr he hf hn
    go_enter Try.func8, Try.ntmps8
    go_wp2_with fail
    rw [E1.out]
    refine HG.out.mono ?_
    rintro e w2 ⟨rfl, b2⟩
    go_wp2
    go_ret
    exact ⟨rfl, b1.trans (b2.mono b1.size)⟩
  · have HG := Lib.hid (great_no (w := w1) n (ae := ae) (af := af) (ce := ce) (cf := cf) (le := es.length) (lf := fs.length) (by omega) (by omega))
    have HW := Lib.hid works_any
    have hz : es.length ≤ 500 ∧ fs.length ≤ 1000 := by omega
    have HE := Lib.hid (fun (w2 : World) (b2 : Below w1.heap.size w1 w2) => (he.1.below b1).below b2)
    have HF := Lib.hid (fun (w2 : World) (b2 : Below w1.heap.size w1 w2) => (hf.1.below b1).below b2)
    have HN := Lib.hid hn
    have HOE := Lib.hid he.2.2
    have HOF := Lib.hid hf.2.2
    clear hgr he hf hn
    cases hm : mayR n es fs with
    | false =>
      have HM := Lib.hid hm
      clear hm
      go_enter Try.func8, Try.ntmps8
      go_wp2_with fail
      rw [E1.out]
      refine HG.out.mono ?_
      rintro e w2 ⟨rfl, b2⟩
      have s2 := b2.size
      have X := Lib.hid (encodeR_no (HE.out w2 b2) (HF.out w2 b2) (by omega) (by omega) HM.out)
      clear c0 c1 c2 c3 c4 c5 c6 c7
      obtain ⟨c0, c1, c2, c3, c4, c5, c6, c7⟩ := rec_cells ((b2.block _ (by omega)).trans G1.out)
      go_wp2_with fail
      refine X.out.mono ?_
      rintro e w3 ⟨rfl, b3⟩
      go_wp2_with fail
      refine (HW.out _).mono ?_
      rintro e w4 ⟨rfl, b4⟩
      go_wp2
      go_ret
      exact ⟨rfl, b1.trans ((b2.trans ((b3.mono s2).trans (b4.mono (by have := b3.size; omega)))).mono b1.size)⟩
    | true =>
      have HM := Lib.hid hm
      have hfew := encR_few hm
      have hz8 : (str (encR n es fs)).size ≤ 6000 := by rw [str_size]; exact hfew
      have HFr := Lib.hid (frame_yes (str (encR n es fs)) (by omega))
      clear hm hfew
      go_enter Try.func8, Try.ntmps8
      go_wp2_with fail
      rw [E1.out]
      refine HG.out.mono ?_
      rintro e w2 ⟨rfl, b2⟩
      have s2 := b2.size
      have X := Lib.hid (encodeR_yes (HE.out w2 b2) (HF.out w2 b2) HN.out HOE.out HOF.out HM.out)
      clear c0 c1 c2 c3 c4 c5 c6 c7
      obtain ⟨c0, c1, c2, c3, c4, c5, c6, c7⟩ := rec_cells ((b2.block _ (by omega)).trans G1.out)
      generalize str (encR n es fs) = by8 at *
      go_wp2_with fail
      refine X.out.mono ?_
      rintro e w3 ⟨rfl, b3⟩
      go_wp2_with fail
      refine (HFr.out _).mono ?_
      rintro e w4 ⟨rfl, b4⟩
      go_wp2_with fail
      refine (HW.out _).mono ?_
      rintro e w5 ⟨rfl, b5⟩
      go_wp2
      go_ret
      have s3 := b3.size
      have s4 := b4.size
      exact ⟨rfl, b1.trans ((b2.trans ((b3.mono s2).trans ((b4.mono (by omega)).trans (b5.mono (by omega))))).mono b1.size)⟩
end Go.Proofs.Ytalilifegclelaa
