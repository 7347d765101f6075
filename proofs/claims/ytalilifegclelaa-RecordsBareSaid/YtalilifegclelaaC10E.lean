/- The walk of RecordsBare. (Printed by wip/src/XC10E.py.) -/
import Derived.Test.YtalilifegclelaaC10z
namespace Go.Proofs.Ytalilifegclelaa
open Go.RowKit

/-- The record with another number in it. -/
def bareSet (n : RNum) (k : Nat) (m : Int) : RNum :=
  match k with | 0 => { n with epoch := m } | 1 => { n with view := m } | 2 => { n with frm := m } | _ => { n with length := m }
/-- Has a kind the number? -/
def bareHas (k : Nat) (kind : Int) : Bool :=
  match k with | 0 => kind == 1 || kind == 2 || kind == 4 | 1 => kind == 4 | 2 => kind == 2 | _ => kind == 3 || kind == 4
theorem may_kind {n : RNum} {es : List Ent} {fs : List Spt} (h : mayR n es fs = true) : n.kind = 1 ∨ n.kind = 2 ∨ n.kind = 3 ∨ n.kind = 4 ∨ n.kind = 5 := by
  unfold mayR kindGood at h
  simp only [Bool.and_eq_true] at h
  obtain ⟨_, h3⟩ := h
  by_cases h1 : n.kind = 1
  · exact .inl h1
  · by_cases h2 : n.kind = 2
    · exact .inr (.inl h2)
    · by_cases h3' : n.kind = 3
      · exact .inr (.inr (.inl h3'))
      · by_cases h4 : n.kind = 4
        · exact .inr (.inr (.inr (.inl h4)))
        · by_cases h5 : n.kind = 5
          · exact .inr (.inr (.inr (.inr h5)))
          · rw [if_neg h1, if_neg h2, if_neg h3', if_neg h4, if_neg h5] at h3
            cases h3
theorem bare_more {n : RNum} {es : List Ent} {fs : List Spt} {m : Int} (k : Nat) (hm : m ≠ 0) (hh : bareHas k n.kind = false) : mayR (bareSet n k m) es fs = false := by
  unfold mayR kindGood bareSet bareHas bareB at *
  match k with
  | 0 | 1 | 2 | k + 3 =>
    simp only [Bool.or_eq_false_iff, beq_eq_false_iff_ne] at hh
    simp only [Bool.and_eq_false_iff]
    right
    repeat' split
    all_goals first | rfl | simp_all
theorem bare_feed {n : RNum} {es : List Ent} {fs : List Spt} (h : fs ≠ []) (hk : n.kind ≠ 5) : mayR n es fs = false := by
  have hl : 0 < fs.length := List.length_pos_iff.2 h
  unfold mayR
  rw [decide_eq_true hk, decide_eq_true hl]
  simp
def bareEnt (s : Int) : Ent := ⟨1, ⟨1, s, 0, 1, 0⟩⟩
theorem bareEnt_good {s : Int} (h : within s 0 3 = true) : entGood s (bareEnt s) = true := by
  rw [within_iff] at h
  simp only [entGood, bareEnt, mayB, inField, least, most, within]
  simp
  omega
theorem bare_ent {n : RNum} {es : List Ent} {fs : List Spt} (h : mayR n es fs = true) : mayR n [bareEnt n.stream] fs = (n.kind == 2 && decide (n.frm < 64) || n.kind == 4 && decide (n.length ≤ 1)) := by
  have hs : within n.stream 0 3 = true := by
    unfold mayR at h
    simp only [Bool.and_eq_true] at h
    exact h.1.1
  have hg : allGood n.stream [bareEnt n.stream] = true := by simp [allGood, bareEnt_good hs]
  rcases may_kind h with hk | hk | hk | hk | hk
  all_goals
    rw [Bool.eq_iff_iff]
    simp only [mayR, kindGood, bareB, logGood, within, hk, hg, List.length_singleton] at h ⊢
    generalize es.length = x at *
    generalize fs.length = y at *
    generalize allGood n.stream es = g at *
    simp at h ⊢
    try omega

set_option maxRecDepth 100000 in
set_option maxHeartbeats 8000000 in
theorem bare_great (n : RNum) {es : List Ent} {fs : List Spt} {ae af : Option Addr} {ce cf : Nat} (wh m : Int) (w : World) (hgr : 500 < es.length ∨ 1000 < fs.length) :
    Calls Try.prog 6 #[.agg #[.int .i64 n.kind, .int .i64 n.stream, .int .i64 n.epoch, .int .i64 n.view, .int .i64 n.frm, .int .i64 n.length, .slice ae es.length ce, .slice af fs.length cf], .int .u8 wh, .int .i64 m] w fun e w' => e = .returned (.bool true) ∧ Below w.heap.size w w' := by
  obtain ⟨w1, e1, b1, s1, g1⟩ := boxed w (recCells n (.slice ae es.length ce) (.slice af fs.length cf)) 25
  have E1 := Lib.hid (show w.alloc (.cells #[.int .i64 n.kind, .int .i64 n.stream, .int .i64 n.epoch, .int .i64 n.view, .int .i64 n.frm, .int .i64 n.length, .slice ae es.length ce, .slice af fs.length cf] 25) = w1 from e1)
  have R1 := Lib.hid (show recAt w1 w.heap.size n (.slice ae es.length ce) (.slice af fs.length cf) from rec_cells g1)
  obtain ⟨c0, c1, c2, c3, c4, c5, c6, c7⟩ := R1.out
  clear e1 g1
  have HW := Lib.hid works_any
  have HG := Lib.hid (great_yes (w := w1) n (ae := ae) (af := af) (ce := ce) (cf := cf) hgr)
  clear hgr
  go_enter Try.func6, Try.ntmps6
  go_wp2_with fail
  rw [E1.out]
  refine HG.out.mono ?_
  rintro e w2 ⟨rfl, b2⟩
  have s2 := b2.size
  go_wp2_with fail
  refine (HW.out _).mono ?_
  rintro e w3 ⟨rfl, b3⟩
  go_wp2
  go_ret
  exact ⟨rfl, b1.trans ((b2.trans (b3.mono s2)).mono b1.size)⟩
set_option maxRecDepth 100000 in
set_option maxHeartbeats 8000000 in
theorem bare_not (n : RNum) {es : List Ent} {fs : List Spt} {ae af : Option Addr} {ce cf : Nat} (wh m : Int) (w : World) (he : EntsIn w (.slice ae es.length ce) es) (hf : SptsIn w (.slice af fs.length cf) fs) (hz1 : es.length ≤ 500) (hz2 : fs.length ≤ 1000) (hm : mayR n es fs = false) :
    Calls Try.prog 6 #[.agg #[.int .i64 n.kind, .int .i64 n.stream, .int .i64 n.epoch, .int .i64 n.view, .int .i64 n.frm, .int .i64 n.length, .slice ae es.length ce, .slice af fs.length cf], .int .u8 wh, .int .i64 m] w fun e w' => e = .returned (.bool true) ∧ Below w.heap.size w w' := by
  obtain ⟨w1, e1, b1, s1, g1⟩ := boxed w (recCells n (.slice ae es.length ce) (.slice af fs.length cf)) 25
  have E1 := Lib.hid (show w.alloc (.cells #[.int .i64 n.kind, .int .i64 n.stream, .int .i64 n.epoch, .int .i64 n.view, .int .i64 n.frm, .int .i64 n.length, .slice ae es.length ce, .slice af fs.length cf] 25) = w1 from e1)
  have R1 := Lib.hid (show recAt w1 w.heap.size n (.slice ae es.length ce) (.slice af fs.length cf) from rec_cells g1)
  obtain ⟨c0, c1, c2, c3, c4, c5, c6, c7⟩ := R1.out
  clear e1 g1
  have HW := Lib.hid works_any
  have HG := Lib.hid (great_no (w := w1) n (ae := ae) (af := af) (ce := ce) (cf := cf) (le := es.length) (lf := fs.length) (by omega) (by omega))
  have HE := Lib.hid (he.1.below b1)
  have HF := Lib.hid (hf.1.below b1)
  have HM := Lib.hid hm
  clear he hf hm
  go_enter Try.func6, Try.ntmps6
  go_wp2_with fail
  rw [E1.out]
  refine HG.out.mono ?_
  rintro e w2 ⟨rfl, b2⟩
  have s2 := b2.size
  clear c0 c1 c2 c3 c4 c5 c6 c7
  obtain ⟨c0, c1, c2, c3, c4, c5, c6, c7⟩ := R1.out.below (by omega) b2
  have X2 := Lib.hid (checkR_no (HE.out.below b2) (HF.out.below b2) (by omega) (by omega) HM.out)
  go_wp2_with fail
  refine X2.out.mono ?_
  rintro e w3 ⟨rfl, b3⟩
  have s3 := b3.size
  go_wp2_with fail
  refine (HW.out _).mono ?_
  rintro e w4 ⟨rfl, b4⟩
  go_wp2
  go_ret
  exact ⟨rfl, b1.trans ((b2.trans ((b3.mono s2).trans (b4.mono (by omega)))).mono b1.size)⟩
set_option maxRecDepth 100000 in
set_option maxHeartbeats 8000000 in
theorem bare_zero (n : RNum) {es : List Ent} {fs : List Spt} {ae af : Option Addr} {ce cf : Nat} (wh m : Int) (w : World) (he : EntsIn w (.slice ae es.length ce) es) (hf : SptsIn w (.slice af fs.length cf) fs) (hz1 : es.length ≤ 500) (hz2 : fs.length ≤ 1000) (hm : mayR n es fs = true) (h0 : m = 0) :
    Calls Try.prog 6 #[.agg #[.int .i64 n.kind, .int .i64 n.stream, .int .i64 n.epoch, .int .i64 n.view, .int .i64 n.frm, .int .i64 n.length, .slice ae es.length ce, .slice af fs.length cf], .int .u8 wh, .int .i64 m] w fun e w' => e = .returned (.bool true) ∧ Below w.heap.size w w' := by
  obtain ⟨w1, e1, b1, s1, g1⟩ := boxed w (recCells n (.slice ae es.length ce) (.slice af fs.length cf)) 25
  have E1 := Lib.hid (show w.alloc (.cells #[.int .i64 n.kind, .int .i64 n.stream, .int .i64 n.epoch, .int .i64 n.view, .int .i64 n.frm, .int .i64 n.length, .slice ae es.length ce, .slice af fs.length cf] 25) = w1 from e1)
  have R1 := Lib.hid (show recAt w1 w.heap.size n (.slice ae es.length ce) (.slice af fs.length cf) from rec_cells g1)
  obtain ⟨c0, c1, c2, c3, c4, c5, c6, c7⟩ := R1.out
  clear e1 g1
  have HW := Lib.hid works_any
  subst h0
  have HG := Lib.hid (great_no (w := w1) n (ae := ae) (af := af) (ce := ce) (cf := cf) (le := es.length) (lf := fs.length) (by omega) (by omega))
  have HE := Lib.hid (he.1.below b1)
  have HF := Lib.hid (hf.1.below b1)
  have HM := Lib.hid hm
  clear he hf hm
  go_enter Try.func6, Try.ntmps6
  go_wp2_with fail
  rw [E1.out]
  refine HG.out.mono ?_
  rintro e w2 ⟨rfl, b2⟩
  have s2 := b2.size
  clear c0 c1 c2 c3 c4 c5 c6 c7
  obtain ⟨c0, c1, c2, c3, c4, c5, c6, c7⟩ := R1.out.below (by omega) b2
  have X2 := Lib.hid (checkR_yes (HE.out.below b2) (HF.out.below b2) (by omega) (by omega) HM.out)
  go_wp2_with fail
  refine X2.out.mono ?_
  rintro e w3 ⟨rfl, b3⟩
  have s3 := b3.size
  go_wp2_with fail
  refine (HW.out _).mono ?_
  rintro e w4 ⟨rfl, b4⟩
  go_wp2
  go_ret
  exact ⟨rfl, b1.trans ((b2.trans ((b3.mono s2).trans (b4.mono (by omega)))).mono b1.size)⟩
theorem spt_built {B : Nat} (W : World) (h : W.heap.size = B) : SptsAt (B + 1) (W.alloc (.cells #[.int .i64 0, .int .i64 0] 32)) (.slice (some ⟨B, 0, none⟩) ([⟨0, 0⟩] : List Spt).length 1) [⟨0, 0⟩] := by
  subst h
  obtain ⟨w1, e1, b1, s1, h1⟩ := boxed W (sptCells ⟨0, 0⟩) 32
  rw [show W.alloc (.cells #[.int .i64 0, .int .i64 0] 32) = w1 from e1]
  obtain ⟨c0, c1⟩ := spt_cells h1
  refine ⟨_, 1, rfl, fun _ => ⟨W.heap.size, 0, rfl, by omega, .inl (by omega), fun j hj => ?_⟩⟩
  obtain rfl : j = 0 := by simp at hj; exact hj
  exact ⟨c0, c1⟩
theorem ent_built {B : Nat} (s : Int) (W : World) (h : W.heap.size = B) : EntsAt (B + 1) (W.alloc (.cells #[.int .i64 1, .int .i64 1, .int .i64 s, .int .i64 0, .int .i64 1, .int .i64 0] 30)) (.slice (some ⟨B, 0, none⟩) [bareEnt s].length 1) [bareEnt s] := by
  subst h
  obtain ⟨w1, e1, b1, s1, h1⟩ := boxed W (entCells (bareEnt s)) 30
  rw [show W.alloc (.cells #[.int .i64 1, .int .i64 1, .int .i64 s, .int .i64 0, .int .i64 1, .int .i64 0] 30) = w1 from e1]
  obtain ⟨c0, c1, c2, c3, c4, c5⟩ := ent_cells h1
  refine ⟨_, 1, rfl, fun _ => ⟨W.heap.size, 0, rfl, by omega, .inl (by omega), fun j hj => ?_⟩⟩
  obtain rfl : j = 0 := by simp at hj; exact hj
  exact ⟨c0, c1, c2, c3, c4, c5⟩
set_option maxRecDepth 100000 in
set_option maxHeartbeats 8000000 in
theorem bare_0_1 (n : RNum) {es : List Ent} {fs : List Spt} {ae af : Option Addr} {ce cf : Nat} (wh m : Int) (w : World) (he : EntsIn w (.slice ae es.length ce) es) (hf : SptsIn w (.slice af fs.length cf) fs) (hz1 : es.length ≤ 500) (hz2 : fs.length ≤ 1000) (hm : mayR n es fs = true) (h0 : m ≠ 0) (hc : wh % 6 = 0) (hw0 : 0 ≤ wh) (hk : n.kind = 1) :
    Calls Try.prog 6 #[.agg #[.int .i64 n.kind, .int .i64 n.stream, .int .i64 n.epoch, .int .i64 n.view, .int .i64 n.frm, .int .i64 n.length, .slice ae es.length ce, .slice af fs.length cf], .int .u8 wh, .int .i64 m] w fun e w' => e = .returned (.bool true) ∧ Below w.heap.size w w' := by
  obtain ⟨w1, e1, b1, s1, g1⟩ := boxed w (recCells n (.slice ae es.length ce) (.slice af fs.length cf)) 25
  have E1 := Lib.hid (show w.alloc (.cells #[.int .i64 n.kind, .int .i64 n.stream, .int .i64 n.epoch, .int .i64 n.view, .int .i64 n.frm, .int .i64 n.length, .slice ae es.length ce, .slice af fs.length cf] 25) = w1 from e1)
  have R1 := Lib.hid (show recAt w1 w.heap.size n (.slice ae es.length ce) (.slice af fs.length cf) from rec_cells g1)
  obtain ⟨c0, c1, c2, c3, c4, c5, c6, c7⟩ := R1.out
  clear e1 g1
  have HW := Lib.hid works_any
  have d0 : (m == 0) = false := by rw [beq_eq_false_iff_ne]; exact h0
  have hmod : wh.tmod 6 = 0 := by rw [Int.tmod_eq_emod_of_nonneg hw0]; exact hc
  have k1 : (n.kind == 1) = true := by rw [hk]; rfl
  have k2 : (n.kind == 2) = false := by rw [hk]; rfl
  have k4 : (n.kind == 4) = false := by rw [hk]; rfl
  clear h0 hk
  have HG := Lib.hid (great_no (w := w1) n (ae := ae) (af := af) (ce := ce) (cf := cf) (le := es.length) (lf := fs.length) (by omega) (by omega))
  have HE := Lib.hid (he.1.below b1)
  have HF := Lib.hid (hf.1.below b1)
  have HM := Lib.hid hm
  clear he hf hm
  go_enter Try.func6, Try.ntmps6
  go_wp2_with fail
  rw [E1.out]
  refine HG.out.mono ?_
  rintro e w2 ⟨rfl, b2⟩
  have s2 := b2.size
  clear c0 c1 c2 c3 c4 c5 c6 c7
  obtain ⟨c0, c1, c2, c3, c4, c5, c6, c7⟩ := R1.out.below (by omega) b2
  have X2 := Lib.hid (checkR_yes (HE.out.below b2) (HF.out.below b2) (by omega) (by omega) HM.out)
  go_wp2_with fail
  refine X2.out.mono ?_
  rintro e w3 ⟨rfl, b3⟩
  have s3 := b3.size
  have B3 := b2.trans (b3.mono s2)
  clear c0 c1 c2 c3 c4 c5 c6 c7
  obtain ⟨c0, c1, c2, c3, c4, c5, c6, c7⟩ := R1.out.below (by omega) B3
  have BA := B3.alloc B3.size (.cells #[.int .i64 n.kind, .int .i64 n.stream, .int .i64 m, .int .i64 n.view, .int .i64 n.frm, .int .i64 n.length, .slice ae es.length ce, .slice af fs.length cf] 25)
  have sA := BA.size
  go_wp2_with fail
  refine (HW.out _).mono ?_
  rintro e w4 ⟨rfl, b4⟩
  go_wp2
  go_ret
  exact ⟨rfl, b1.trans ((BA.trans (b4.mono sA)).mono b1.size)⟩
set_option maxRecDepth 100000 in
set_option maxHeartbeats 8000000 in
theorem bare_0_2 (n : RNum) {es : List Ent} {fs : List Spt} {ae af : Option Addr} {ce cf : Nat} (wh m : Int) (w : World) (he : EntsIn w (.slice ae es.length ce) es) (hf : SptsIn w (.slice af fs.length cf) fs) (hz1 : es.length ≤ 500) (hz2 : fs.length ≤ 1000) (hm : mayR n es fs = true) (h0 : m ≠ 0) (hc : wh % 6 = 0) (hw0 : 0 ≤ wh) (hk : n.kind = 2) :
    Calls Try.prog 6 #[.agg #[.int .i64 n.kind, .int .i64 n.stream, .int .i64 n.epoch, .int .i64 n.view, .int .i64 n.frm, .int .i64 n.length, .slice ae es.length ce, .slice af fs.length cf], .int .u8 wh, .int .i64 m] w fun e w' => e = .returned (.bool true) ∧ Below w.heap.size w w' := by
  obtain ⟨w1, e1, b1, s1, g1⟩ := boxed w (recCells n (.slice ae es.length ce) (.slice af fs.length cf)) 25
  have E1 := Lib.hid (show w.alloc (.cells #[.int .i64 n.kind, .int .i64 n.stream, .int .i64 n.epoch, .int .i64 n.view, .int .i64 n.frm, .int .i64 n.length, .slice ae es.length ce, .slice af fs.length cf] 25) = w1 from e1)
  have R1 := Lib.hid (show recAt w1 w.heap.size n (.slice ae es.length ce) (.slice af fs.length cf) from rec_cells g1)
  obtain ⟨c0, c1, c2, c3, c4, c5, c6, c7⟩ := R1.out
  clear e1 g1
  have HW := Lib.hid works_any
  have d0 : (m == 0) = false := by rw [beq_eq_false_iff_ne]; exact h0
  have hmod : wh.tmod 6 = 0 := by rw [Int.tmod_eq_emod_of_nonneg hw0]; exact hc
  have k1 : (n.kind == 1) = false := by rw [hk]; rfl
  have k2 : (n.kind == 2) = true := by rw [hk]; rfl
  have k4 : (n.kind == 4) = false := by rw [hk]; rfl
  clear h0 hk
  have HG := Lib.hid (great_no (w := w1) n (ae := ae) (af := af) (ce := ce) (cf := cf) (le := es.length) (lf := fs.length) (by omega) (by omega))
  have HE := Lib.hid (he.1.below b1)
  have HF := Lib.hid (hf.1.below b1)
  have HM := Lib.hid hm
  clear he hf hm
  go_enter Try.func6, Try.ntmps6
  go_wp2_with fail
  rw [E1.out]
  refine HG.out.mono ?_
  rintro e w2 ⟨rfl, b2⟩
  have s2 := b2.size
  clear c0 c1 c2 c3 c4 c5 c6 c7
  obtain ⟨c0, c1, c2, c3, c4, c5, c6, c7⟩ := R1.out.below (by omega) b2
  have X2 := Lib.hid (checkR_yes (HE.out.below b2) (HF.out.below b2) (by omega) (by omega) HM.out)
  go_wp2_with fail
  refine X2.out.mono ?_
  rintro e w3 ⟨rfl, b3⟩
  have s3 := b3.size
  have B3 := b2.trans (b3.mono s2)
  clear c0 c1 c2 c3 c4 c5 c6 c7
  obtain ⟨c0, c1, c2, c3, c4, c5, c6, c7⟩ := R1.out.below (by omega) B3
  have BA := B3.alloc B3.size (.cells #[.int .i64 n.kind, .int .i64 n.stream, .int .i64 m, .int .i64 n.view, .int .i64 n.frm, .int .i64 n.length, .slice ae es.length ce, .slice af fs.length cf] 25)
  have sA := BA.size
  go_wp2_with fail
  refine (HW.out _).mono ?_
  rintro e w4 ⟨rfl, b4⟩
  go_wp2
  go_ret
  exact ⟨rfl, b1.trans ((BA.trans (b4.mono sA)).mono b1.size)⟩
set_option maxRecDepth 100000 in
set_option maxHeartbeats 8000000 in
theorem bare_0_4 (n : RNum) {es : List Ent} {fs : List Spt} {ae af : Option Addr} {ce cf : Nat} (wh m : Int) (w : World) (he : EntsIn w (.slice ae es.length ce) es) (hf : SptsIn w (.slice af fs.length cf) fs) (hz1 : es.length ≤ 500) (hz2 : fs.length ≤ 1000) (hm : mayR n es fs = true) (h0 : m ≠ 0) (hc : wh % 6 = 0) (hw0 : 0 ≤ wh) (hk : n.kind = 4) :
    Calls Try.prog 6 #[.agg #[.int .i64 n.kind, .int .i64 n.stream, .int .i64 n.epoch, .int .i64 n.view, .int .i64 n.frm, .int .i64 n.length, .slice ae es.length ce, .slice af fs.length cf], .int .u8 wh, .int .i64 m] w fun e w' => e = .returned (.bool true) ∧ Below w.heap.size w w' := by
  obtain ⟨w1, e1, b1, s1, g1⟩ := boxed w (recCells n (.slice ae es.length ce) (.slice af fs.length cf)) 25
  have E1 := Lib.hid (show w.alloc (.cells #[.int .i64 n.kind, .int .i64 n.stream, .int .i64 n.epoch, .int .i64 n.view, .int .i64 n.frm, .int .i64 n.length, .slice ae es.length ce, .slice af fs.length cf] 25) = w1 from e1)
  have R1 := Lib.hid (show recAt w1 w.heap.size n (.slice ae es.length ce) (.slice af fs.length cf) from rec_cells g1)
  obtain ⟨c0, c1, c2, c3, c4, c5, c6, c7⟩ := R1.out
  clear e1 g1
  have HW := Lib.hid works_any
  have d0 : (m == 0) = false := by rw [beq_eq_false_iff_ne]; exact h0
  have hmod : wh.tmod 6 = 0 := by rw [Int.tmod_eq_emod_of_nonneg hw0]; exact hc
  have k1 : (n.kind == 1) = false := by rw [hk]; rfl
  have k2 : (n.kind == 2) = false := by rw [hk]; rfl
  have k4 : (n.kind == 4) = true := by rw [hk]; rfl
  clear h0 hk
  have HG := Lib.hid (great_no (w := w1) n (ae := ae) (af := af) (ce := ce) (cf := cf) (le := es.length) (lf := fs.length) (by omega) (by omega))
  have HE := Lib.hid (he.1.below b1)
  have HF := Lib.hid (hf.1.below b1)
  have HM := Lib.hid hm
  clear he hf hm
  go_enter Try.func6, Try.ntmps6
  go_wp2_with fail
  rw [E1.out]
  refine HG.out.mono ?_
  rintro e w2 ⟨rfl, b2⟩
  have s2 := b2.size
  clear c0 c1 c2 c3 c4 c5 c6 c7
  obtain ⟨c0, c1, c2, c3, c4, c5, c6, c7⟩ := R1.out.below (by omega) b2
  have X2 := Lib.hid (checkR_yes (HE.out.below b2) (HF.out.below b2) (by omega) (by omega) HM.out)
  go_wp2_with fail
  refine X2.out.mono ?_
  rintro e w3 ⟨rfl, b3⟩
  have s3 := b3.size
  have B3 := b2.trans (b3.mono s2)
  clear c0 c1 c2 c3 c4 c5 c6 c7
  obtain ⟨c0, c1, c2, c3, c4, c5, c6, c7⟩ := R1.out.below (by omega) B3
  have BA := B3.alloc B3.size (.cells #[.int .i64 n.kind, .int .i64 n.stream, .int .i64 m, .int .i64 n.view, .int .i64 n.frm, .int .i64 n.length, .slice ae es.length ce, .slice af fs.length cf] 25)
  have sA := BA.size
  go_wp2_with fail
  refine (HW.out _).mono ?_
  rintro e w4 ⟨rfl, b4⟩
  go_wp2
  go_ret
  exact ⟨rfl, b1.trans ((BA.trans (b4.mono sA)).mono b1.size)⟩
set_option maxRecDepth 100000 in
set_option maxHeartbeats 8000000 in
theorem bare_0_no (n : RNum) {es : List Ent} {fs : List Spt} {ae af : Option Addr} {ce cf : Nat} (wh m : Int) (w : World) (he : EntsIn w (.slice ae es.length ce) es) (hf : SptsIn w (.slice af fs.length cf) fs) (hz1 : es.length ≤ 500) (hz2 : fs.length ≤ 1000) (hm : mayR n es fs = true) (h0 : m ≠ 0) (hc : wh % 6 = 0) (hw0 : 0 ≤ wh) (h1 : n.kind ≠ 1) (h2 : n.kind ≠ 2) (h4 : n.kind ≠ 4) :
    Calls Try.prog 6 #[.agg #[.int .i64 n.kind, .int .i64 n.stream, .int .i64 n.epoch, .int .i64 n.view, .int .i64 n.frm, .int .i64 n.length, .slice ae es.length ce, .slice af fs.length cf], .int .u8 wh, .int .i64 m] w fun e w' => e = .returned (.bool true) ∧ Below w.heap.size w w' := by
  obtain ⟨w1, e1, b1, s1, g1⟩ := boxed w (recCells n (.slice ae es.length ce) (.slice af fs.length cf)) 25
  have E1 := Lib.hid (show w.alloc (.cells #[.int .i64 n.kind, .int .i64 n.stream, .int .i64 n.epoch, .int .i64 n.view, .int .i64 n.frm, .int .i64 n.length, .slice ae es.length ce, .slice af fs.length cf] 25) = w1 from e1)
  have R1 := Lib.hid (show recAt w1 w.heap.size n (.slice ae es.length ce) (.slice af fs.length cf) from rec_cells g1)
  obtain ⟨c0, c1, c2, c3, c4, c5, c6, c7⟩ := R1.out
  clear e1 g1
  have HW := Lib.hid works_any
  have d0 : (m == 0) = false := by rw [beq_eq_false_iff_ne]; exact h0
  have hmod : wh.tmod 6 = 0 := by rw [Int.tmod_eq_emod_of_nonneg hw0]; exact hc
  have k1 : (n.kind == 1) = false := by rw [beq_eq_false_iff_ne]; exact h1
  have k2 : (n.kind == 2) = false := by rw [beq_eq_false_iff_ne]; exact h2
  have k4 : (n.kind == 4) = false := by rw [beq_eq_false_iff_ne]; exact h4
  have HB := Lib.hid (bare_more (n := n) (es := es) (fs := fs) 0 h0 (by simp [bareHas, h1, h2, h4]))
  clear h0 h1 h2 h4
  have HG := Lib.hid (great_no (w := w1) n (ae := ae) (af := af) (ce := ce) (cf := cf) (le := es.length) (lf := fs.length) (by omega) (by omega))
  have HE := Lib.hid (he.1.below b1)
  have HF := Lib.hid (hf.1.below b1)
  have HM := Lib.hid hm
  clear he hf hm
  go_enter Try.func6, Try.ntmps6
  go_wp2_with fail
  rw [E1.out]
  refine HG.out.mono ?_
  rintro e w2 ⟨rfl, b2⟩
  have s2 := b2.size
  clear c0 c1 c2 c3 c4 c5 c6 c7
  obtain ⟨c0, c1, c2, c3, c4, c5, c6, c7⟩ := R1.out.below (by omega) b2
  have X2 := Lib.hid (checkR_yes (HE.out.below b2) (HF.out.below b2) (by omega) (by omega) HM.out)
  go_wp2_with fail
  refine X2.out.mono ?_
  rintro e w3 ⟨rfl, b3⟩
  have s3 := b3.size
  have B3 := b2.trans (b3.mono s2)
  clear c0 c1 c2 c3 c4 c5 c6 c7
  obtain ⟨c0, c1, c2, c3, c4, c5, c6, c7⟩ := R1.out.below (by omega) B3
  have bA : Below w3.heap.size w3 (w3.alloc (.cells #[.int .i64 n.kind, .int .i64 n.stream, .int .i64 m, .int .i64 n.view, .int .i64 n.frm, .int .i64 n.length, .slice ae es.length ce, .slice af fs.length cf] 25)) := (Below.refl _ _).alloc (Nat.le_refl _) _
  have X4 := Lib.hid (checkR_no (n := bareSet n 0 m) ((HE.out.below B3).below bA) ((HF.out.below B3).below bA) (by omega) (by omega) HB.out)
  have BA := B3.trans (bA.mono B3.size)
  have sA := BA.size
  clear bA
  go_wp2_with fail
  refine X4.out.mono ?_
  rintro e w4 ⟨rfl, b4⟩
  go_wp2_with fail
  refine (HW.out _).mono ?_
  rintro e w5 ⟨rfl, b5⟩
  go_wp2
  go_ret
  exact ⟨rfl, b1.trans ((BA.trans ((b4.mono sA).trans (b5.mono (by have := b4.size; omega)))).mono b1.size)⟩
set_option maxRecDepth 100000 in
set_option maxHeartbeats 8000000 in
theorem bare_1_4 (n : RNum) {es : List Ent} {fs : List Spt} {ae af : Option Addr} {ce cf : Nat} (wh m : Int) (w : World) (he : EntsIn w (.slice ae es.length ce) es) (hf : SptsIn w (.slice af fs.length cf) fs) (hz1 : es.length ≤ 500) (hz2 : fs.length ≤ 1000) (hm : mayR n es fs = true) (h0 : m ≠ 0) (hc : wh % 6 = 1) (hw0 : 0 ≤ wh) (hk : n.kind = 4) :
    Calls Try.prog 6 #[.agg #[.int .i64 n.kind, .int .i64 n.stream, .int .i64 n.epoch, .int .i64 n.view, .int .i64 n.frm, .int .i64 n.length, .slice ae es.length ce, .slice af fs.length cf], .int .u8 wh, .int .i64 m] w fun e w' => e = .returned (.bool true) ∧ Below w.heap.size w w' := by
  obtain ⟨w1, e1, b1, s1, g1⟩ := boxed w (recCells n (.slice ae es.length ce) (.slice af fs.length cf)) 25
  have E1 := Lib.hid (show w.alloc (.cells #[.int .i64 n.kind, .int .i64 n.stream, .int .i64 n.epoch, .int .i64 n.view, .int .i64 n.frm, .int .i64 n.length, .slice ae es.length ce, .slice af fs.length cf] 25) = w1 from e1)
  have R1 := Lib.hid (show recAt w1 w.heap.size n (.slice ae es.length ce) (.slice af fs.length cf) from rec_cells g1)
  obtain ⟨c0, c1, c2, c3, c4, c5, c6, c7⟩ := R1.out
  clear e1 g1
  have HW := Lib.hid works_any
  have d0 : (m == 0) = false := by rw [beq_eq_false_iff_ne]; exact h0
  have hmod : wh.tmod 6 = 1 := by rw [Int.tmod_eq_emod_of_nonneg hw0]; exact hc
  have k4 : (n.kind == 4) = true := by rw [hk]; rfl
  clear h0 hk
  have HG := Lib.hid (great_no (w := w1) n (ae := ae) (af := af) (ce := ce) (cf := cf) (le := es.length) (lf := fs.length) (by omega) (by omega))
  have HE := Lib.hid (he.1.below b1)
  have HF := Lib.hid (hf.1.below b1)
  have HM := Lib.hid hm
  clear he hf hm
  go_enter Try.func6, Try.ntmps6
  go_wp2_with fail
  rw [E1.out]
  refine HG.out.mono ?_
  rintro e w2 ⟨rfl, b2⟩
  have s2 := b2.size
  clear c0 c1 c2 c3 c4 c5 c6 c7
  obtain ⟨c0, c1, c2, c3, c4, c5, c6, c7⟩ := R1.out.below (by omega) b2
  have X2 := Lib.hid (checkR_yes (HE.out.below b2) (HF.out.below b2) (by omega) (by omega) HM.out)
  go_wp2_with fail
  refine X2.out.mono ?_
  rintro e w3 ⟨rfl, b3⟩
  have s3 := b3.size
  have B3 := b2.trans (b3.mono s2)
  clear c0 c1 c2 c3 c4 c5 c6 c7
  obtain ⟨c0, c1, c2, c3, c4, c5, c6, c7⟩ := R1.out.below (by omega) B3
  have BA := B3.alloc B3.size (.cells #[.int .i64 n.kind, .int .i64 n.stream, .int .i64 n.epoch, .int .i64 m, .int .i64 n.frm, .int .i64 n.length, .slice ae es.length ce, .slice af fs.length cf] 25)
  have sA := BA.size
  go_wp2_with fail
  refine (HW.out _).mono ?_
  rintro e w4 ⟨rfl, b4⟩
  go_wp2
  go_ret
  exact ⟨rfl, b1.trans ((BA.trans (b4.mono sA)).mono b1.size)⟩
set_option maxRecDepth 100000 in
set_option maxHeartbeats 8000000 in
theorem bare_1_no (n : RNum) {es : List Ent} {fs : List Spt} {ae af : Option Addr} {ce cf : Nat} (wh m : Int) (w : World) (he : EntsIn w (.slice ae es.length ce) es) (hf : SptsIn w (.slice af fs.length cf) fs) (hz1 : es.length ≤ 500) (hz2 : fs.length ≤ 1000) (hm : mayR n es fs = true) (h0 : m ≠ 0) (hc : wh % 6 = 1) (hw0 : 0 ≤ wh) (h4 : n.kind ≠ 4) :
    Calls Try.prog 6 #[.agg #[.int .i64 n.kind, .int .i64 n.stream, .int .i64 n.epoch, .int .i64 n.view, .int .i64 n.frm, .int .i64 n.length, .slice ae es.length ce, .slice af fs.length cf], .int .u8 wh, .int .i64 m] w fun e w' => e = .returned (.bool true) ∧ Below w.heap.size w w' := by
  obtain ⟨w1, e1, b1, s1, g1⟩ := boxed w (recCells n (.slice ae es.length ce) (.slice af fs.length cf)) 25
  have E1 := Lib.hid (show w.alloc (.cells #[.int .i64 n.kind, .int .i64 n.stream, .int .i64 n.epoch, .int .i64 n.view, .int .i64 n.frm, .int .i64 n.length, .slice ae es.length ce, .slice af fs.length cf] 25) = w1 from e1)
  have R1 := Lib.hid (show recAt w1 w.heap.size n (.slice ae es.length ce) (.slice af fs.length cf) from rec_cells g1)
  obtain ⟨c0, c1, c2, c3, c4, c5, c6, c7⟩ := R1.out
  clear e1 g1
  have HW := Lib.hid works_any
  have d0 : (m == 0) = false := by rw [beq_eq_false_iff_ne]; exact h0
  have hmod : wh.tmod 6 = 1 := by rw [Int.tmod_eq_emod_of_nonneg hw0]; exact hc
  have k4 : (n.kind == 4) = false := by rw [beq_eq_false_iff_ne]; exact h4
  have HB := Lib.hid (bare_more (n := n) (es := es) (fs := fs) 1 h0 (by simp [bareHas, h4]))
  clear h0 h4
  have HG := Lib.hid (great_no (w := w1) n (ae := ae) (af := af) (ce := ce) (cf := cf) (le := es.length) (lf := fs.length) (by omega) (by omega))
  have HE := Lib.hid (he.1.below b1)
  have HF := Lib.hid (hf.1.below b1)
  have HM := Lib.hid hm
  clear he hf hm
  go_enter Try.func6, Try.ntmps6
  go_wp2_with fail
  rw [E1.out]
  refine HG.out.mono ?_
  rintro e w2 ⟨rfl, b2⟩
  have s2 := b2.size
  clear c0 c1 c2 c3 c4 c5 c6 c7
  obtain ⟨c0, c1, c2, c3, c4, c5, c6, c7⟩ := R1.out.below (by omega) b2
  have X2 := Lib.hid (checkR_yes (HE.out.below b2) (HF.out.below b2) (by omega) (by omega) HM.out)
  go_wp2_with fail
  refine X2.out.mono ?_
  rintro e w3 ⟨rfl, b3⟩
  have s3 := b3.size
  have B3 := b2.trans (b3.mono s2)
  clear c0 c1 c2 c3 c4 c5 c6 c7
  obtain ⟨c0, c1, c2, c3, c4, c5, c6, c7⟩ := R1.out.below (by omega) B3
  have bA : Below w3.heap.size w3 (w3.alloc (.cells #[.int .i64 n.kind, .int .i64 n.stream, .int .i64 n.epoch, .int .i64 m, .int .i64 n.frm, .int .i64 n.length, .slice ae es.length ce, .slice af fs.length cf] 25)) := (Below.refl _ _).alloc (Nat.le_refl _) _
  have X4 := Lib.hid (checkR_no (n := bareSet n 1 m) ((HE.out.below B3).below bA) ((HF.out.below B3).below bA) (by omega) (by omega) HB.out)
  have BA := B3.trans (bA.mono B3.size)
  have sA := BA.size
  clear bA
  go_wp2_with fail
  refine X4.out.mono ?_
  rintro e w4 ⟨rfl, b4⟩
  go_wp2_with fail
  refine (HW.out _).mono ?_
  rintro e w5 ⟨rfl, b5⟩
  go_wp2
  go_ret
  exact ⟨rfl, b1.trans ((BA.trans ((b4.mono sA).trans (b5.mono (by have := b4.size; omega)))).mono b1.size)⟩
set_option maxRecDepth 100000 in
set_option maxHeartbeats 8000000 in
theorem bare_2_2 (n : RNum) {es : List Ent} {fs : List Spt} {ae af : Option Addr} {ce cf : Nat} (wh m : Int) (w : World) (he : EntsIn w (.slice ae es.length ce) es) (hf : SptsIn w (.slice af fs.length cf) fs) (hz1 : es.length ≤ 500) (hz2 : fs.length ≤ 1000) (hm : mayR n es fs = true) (h0 : m ≠ 0) (hc : wh % 6 = 2) (hw0 : 0 ≤ wh) (hk : n.kind = 2) :
    Calls Try.prog 6 #[.agg #[.int .i64 n.kind, .int .i64 n.stream, .int .i64 n.epoch, .int .i64 n.view, .int .i64 n.frm, .int .i64 n.length, .slice ae es.length ce, .slice af fs.length cf], .int .u8 wh, .int .i64 m] w fun e w' => e = .returned (.bool true) ∧ Below w.heap.size w w' := by
  obtain ⟨w1, e1, b1, s1, g1⟩ := boxed w (recCells n (.slice ae es.length ce) (.slice af fs.length cf)) 25
  have E1 := Lib.hid (show w.alloc (.cells #[.int .i64 n.kind, .int .i64 n.stream, .int .i64 n.epoch, .int .i64 n.view, .int .i64 n.frm, .int .i64 n.length, .slice ae es.length ce, .slice af fs.length cf] 25) = w1 from e1)
  have R1 := Lib.hid (show recAt w1 w.heap.size n (.slice ae es.length ce) (.slice af fs.length cf) from rec_cells g1)
  obtain ⟨c0, c1, c2, c3, c4, c5, c6, c7⟩ := R1.out
  clear e1 g1
  have HW := Lib.hid works_any
  have d0 : (m == 0) = false := by rw [beq_eq_false_iff_ne]; exact h0
  have hmod : wh.tmod 6 = 2 := by rw [Int.tmod_eq_emod_of_nonneg hw0]; exact hc
  have k2 : (n.kind == 2) = true := by rw [hk]; rfl
  clear h0 hk
  have HG := Lib.hid (great_no (w := w1) n (ae := ae) (af := af) (ce := ce) (cf := cf) (le := es.length) (lf := fs.length) (by omega) (by omega))
  have HE := Lib.hid (he.1.below b1)
  have HF := Lib.hid (hf.1.below b1)
  have HM := Lib.hid hm
  clear he hf hm
  go_enter Try.func6, Try.ntmps6
  go_wp2_with fail
  rw [E1.out]
  refine HG.out.mono ?_
  rintro e w2 ⟨rfl, b2⟩
  have s2 := b2.size
  clear c0 c1 c2 c3 c4 c5 c6 c7
  obtain ⟨c0, c1, c2, c3, c4, c5, c6, c7⟩ := R1.out.below (by omega) b2
  have X2 := Lib.hid (checkR_yes (HE.out.below b2) (HF.out.below b2) (by omega) (by omega) HM.out)
  go_wp2_with fail
  refine X2.out.mono ?_
  rintro e w3 ⟨rfl, b3⟩
  have s3 := b3.size
  have B3 := b2.trans (b3.mono s2)
  clear c0 c1 c2 c3 c4 c5 c6 c7
  obtain ⟨c0, c1, c2, c3, c4, c5, c6, c7⟩ := R1.out.below (by omega) B3
  have BA := B3.alloc B3.size (.cells #[.int .i64 n.kind, .int .i64 n.stream, .int .i64 n.epoch, .int .i64 n.view, .int .i64 m, .int .i64 n.length, .slice ae es.length ce, .slice af fs.length cf] 25)
  have sA := BA.size
  go_wp2_with fail
  refine (HW.out _).mono ?_
  rintro e w4 ⟨rfl, b4⟩
  go_wp2
  go_ret
  exact ⟨rfl, b1.trans ((BA.trans (b4.mono sA)).mono b1.size)⟩
set_option maxRecDepth 100000 in
set_option maxHeartbeats 8000000 in
theorem bare_2_no (n : RNum) {es : List Ent} {fs : List Spt} {ae af : Option Addr} {ce cf : Nat} (wh m : Int) (w : World) (he : EntsIn w (.slice ae es.length ce) es) (hf : SptsIn w (.slice af fs.length cf) fs) (hz1 : es.length ≤ 500) (hz2 : fs.length ≤ 1000) (hm : mayR n es fs = true) (h0 : m ≠ 0) (hc : wh % 6 = 2) (hw0 : 0 ≤ wh) (h2 : n.kind ≠ 2) :
    Calls Try.prog 6 #[.agg #[.int .i64 n.kind, .int .i64 n.stream, .int .i64 n.epoch, .int .i64 n.view, .int .i64 n.frm, .int .i64 n.length, .slice ae es.length ce, .slice af fs.length cf], .int .u8 wh, .int .i64 m] w fun e w' => e = .returned (.bool true) ∧ Below w.heap.size w w' := by
  obtain ⟨w1, e1, b1, s1, g1⟩ := boxed w (recCells n (.slice ae es.length ce) (.slice af fs.length cf)) 25
  have E1 := Lib.hid (show w.alloc (.cells #[.int .i64 n.kind, .int .i64 n.stream, .int .i64 n.epoch, .int .i64 n.view, .int .i64 n.frm, .int .i64 n.length, .slice ae es.length ce, .slice af fs.length cf] 25) = w1 from e1)
  have R1 := Lib.hid (show recAt w1 w.heap.size n (.slice ae es.length ce) (.slice af fs.length cf) from rec_cells g1)
  obtain ⟨c0, c1, c2, c3, c4, c5, c6, c7⟩ := R1.out
  clear e1 g1
  have HW := Lib.hid works_any
  have d0 : (m == 0) = false := by rw [beq_eq_false_iff_ne]; exact h0
  have hmod : wh.tmod 6 = 2 := by rw [Int.tmod_eq_emod_of_nonneg hw0]; exact hc
  have k2 : (n.kind == 2) = false := by rw [beq_eq_false_iff_ne]; exact h2
  have HB := Lib.hid (bare_more (n := n) (es := es) (fs := fs) 2 h0 (by simp [bareHas, h2]))
  clear h0 h2
  have HG := Lib.hid (great_no (w := w1) n (ae := ae) (af := af) (ce := ce) (cf := cf) (le := es.length) (lf := fs.length) (by omega) (by omega))
  have HE := Lib.hid (he.1.below b1)
  have HF := Lib.hid (hf.1.below b1)
  have HM := Lib.hid hm
  clear he hf hm
  go_enter Try.func6, Try.ntmps6
  go_wp2_with fail
  rw [E1.out]
  refine HG.out.mono ?_
  rintro e w2 ⟨rfl, b2⟩
  have s2 := b2.size
  clear c0 c1 c2 c3 c4 c5 c6 c7
  obtain ⟨c0, c1, c2, c3, c4, c5, c6, c7⟩ := R1.out.below (by omega) b2
  have X2 := Lib.hid (checkR_yes (HE.out.below b2) (HF.out.below b2) (by omega) (by omega) HM.out)
  go_wp2_with fail
  refine X2.out.mono ?_
  rintro e w3 ⟨rfl, b3⟩
  have s3 := b3.size
  have B3 := b2.trans (b3.mono s2)
  clear c0 c1 c2 c3 c4 c5 c6 c7
  obtain ⟨c0, c1, c2, c3, c4, c5, c6, c7⟩ := R1.out.below (by omega) B3
  have bA : Below w3.heap.size w3 (w3.alloc (.cells #[.int .i64 n.kind, .int .i64 n.stream, .int .i64 n.epoch, .int .i64 n.view, .int .i64 m, .int .i64 n.length, .slice ae es.length ce, .slice af fs.length cf] 25)) := (Below.refl _ _).alloc (Nat.le_refl _) _
  have X4 := Lib.hid (checkR_no (n := bareSet n 2 m) ((HE.out.below B3).below bA) ((HF.out.below B3).below bA) (by omega) (by omega) HB.out)
  have BA := B3.trans (bA.mono B3.size)
  have sA := BA.size
  clear bA
  go_wp2_with fail
  refine X4.out.mono ?_
  rintro e w4 ⟨rfl, b4⟩
  go_wp2_with fail
  refine (HW.out _).mono ?_
  rintro e w5 ⟨rfl, b5⟩
  go_wp2
  go_ret
  exact ⟨rfl, b1.trans ((BA.trans ((b4.mono sA).trans (b5.mono (by have := b4.size; omega)))).mono b1.size)⟩
set_option maxRecDepth 100000 in
set_option maxHeartbeats 8000000 in
theorem bare_3_3 (n : RNum) {es : List Ent} {fs : List Spt} {ae af : Option Addr} {ce cf : Nat} (wh m : Int) (w : World) (he : EntsIn w (.slice ae es.length ce) es) (hf : SptsIn w (.slice af fs.length cf) fs) (hz1 : es.length ≤ 500) (hz2 : fs.length ≤ 1000) (hm : mayR n es fs = true) (h0 : m ≠ 0) (hc : wh % 6 = 3) (hw0 : 0 ≤ wh) (hk : n.kind = 3) :
    Calls Try.prog 6 #[.agg #[.int .i64 n.kind, .int .i64 n.stream, .int .i64 n.epoch, .int .i64 n.view, .int .i64 n.frm, .int .i64 n.length, .slice ae es.length ce, .slice af fs.length cf], .int .u8 wh, .int .i64 m] w fun e w' => e = .returned (.bool true) ∧ Below w.heap.size w w' := by
  obtain ⟨w1, e1, b1, s1, g1⟩ := boxed w (recCells n (.slice ae es.length ce) (.slice af fs.length cf)) 25
  have E1 := Lib.hid (show w.alloc (.cells #[.int .i64 n.kind, .int .i64 n.stream, .int .i64 n.epoch, .int .i64 n.view, .int .i64 n.frm, .int .i64 n.length, .slice ae es.length ce, .slice af fs.length cf] 25) = w1 from e1)
  have R1 := Lib.hid (show recAt w1 w.heap.size n (.slice ae es.length ce) (.slice af fs.length cf) from rec_cells g1)
  obtain ⟨c0, c1, c2, c3, c4, c5, c6, c7⟩ := R1.out
  clear e1 g1
  have HW := Lib.hid works_any
  have d0 : (m == 0) = false := by rw [beq_eq_false_iff_ne]; exact h0
  have hmod : wh.tmod 6 = 3 := by rw [Int.tmod_eq_emod_of_nonneg hw0]; exact hc
  have k3 : (n.kind == 3) = true := by rw [hk]; rfl
  have k4 : (n.kind == 4) = false := by rw [hk]; rfl
  clear h0 hk
  have HG := Lib.hid (great_no (w := w1) n (ae := ae) (af := af) (ce := ce) (cf := cf) (le := es.length) (lf := fs.length) (by omega) (by omega))
  have HE := Lib.hid (he.1.below b1)
  have HF := Lib.hid (hf.1.below b1)
  have HM := Lib.hid hm
  clear he hf hm
  go_enter Try.func6, Try.ntmps6
  go_wp2_with fail
  rw [E1.out]
  refine HG.out.mono ?_
  rintro e w2 ⟨rfl, b2⟩
  have s2 := b2.size
  clear c0 c1 c2 c3 c4 c5 c6 c7
  obtain ⟨c0, c1, c2, c3, c4, c5, c6, c7⟩ := R1.out.below (by omega) b2
  have X2 := Lib.hid (checkR_yes (HE.out.below b2) (HF.out.below b2) (by omega) (by omega) HM.out)
  go_wp2_with fail
  refine X2.out.mono ?_
  rintro e w3 ⟨rfl, b3⟩
  have s3 := b3.size
  have B3 := b2.trans (b3.mono s2)
  clear c0 c1 c2 c3 c4 c5 c6 c7
  obtain ⟨c0, c1, c2, c3, c4, c5, c6, c7⟩ := R1.out.below (by omega) B3
  have BA := B3.alloc B3.size (.cells #[.int .i64 n.kind, .int .i64 n.stream, .int .i64 n.epoch, .int .i64 n.view, .int .i64 n.frm, .int .i64 m, .slice ae es.length ce, .slice af fs.length cf] 25)
  have sA := BA.size
  go_wp2_with fail
  refine (HW.out _).mono ?_
  rintro e w4 ⟨rfl, b4⟩
  go_wp2
  go_ret
  exact ⟨rfl, b1.trans ((BA.trans (b4.mono sA)).mono b1.size)⟩
set_option maxRecDepth 100000 in
set_option maxHeartbeats 8000000 in
theorem bare_3_4 (n : RNum) {es : List Ent} {fs : List Spt} {ae af : Option Addr} {ce cf : Nat} (wh m : Int) (w : World) (he : EntsIn w (.slice ae es.length ce) es) (hf : SptsIn w (.slice af fs.length cf) fs) (hz1 : es.length ≤ 500) (hz2 : fs.length ≤ 1000) (hm : mayR n es fs = true) (h0 : m ≠ 0) (hc : wh % 6 = 3) (hw0 : 0 ≤ wh) (hk : n.kind = 4) :
    Calls Try.prog 6 #[.agg #[.int .i64 n.kind, .int .i64 n.stream, .int .i64 n.epoch, .int .i64 n.view, .int .i64 n.frm, .int .i64 n.length, .slice ae es.length ce, .slice af fs.length cf], .int .u8 wh, .int .i64 m] w fun e w' => e = .returned (.bool true) ∧ Below w.heap.size w w' := by
  obtain ⟨w1, e1, b1, s1, g1⟩ := boxed w (recCells n (.slice ae es.length ce) (.slice af fs.length cf)) 25
  have E1 := Lib.hid (show w.alloc (.cells #[.int .i64 n.kind, .int .i64 n.stream, .int .i64 n.epoch, .int .i64 n.view, .int .i64 n.frm, .int .i64 n.length, .slice ae es.length ce, .slice af fs.length cf] 25) = w1 from e1)
  have R1 := Lib.hid (show recAt w1 w.heap.size n (.slice ae es.length ce) (.slice af fs.length cf) from rec_cells g1)
  obtain ⟨c0, c1, c2, c3, c4, c5, c6, c7⟩ := R1.out
  clear e1 g1
  have HW := Lib.hid works_any
  have d0 : (m == 0) = false := by rw [beq_eq_false_iff_ne]; exact h0
  have hmod : wh.tmod 6 = 3 := by rw [Int.tmod_eq_emod_of_nonneg hw0]; exact hc
  have k3 : (n.kind == 3) = false := by rw [hk]; rfl
  have k4 : (n.kind == 4) = true := by rw [hk]; rfl
  clear h0 hk
  have HG := Lib.hid (great_no (w := w1) n (ae := ae) (af := af) (ce := ce) (cf := cf) (le := es.length) (lf := fs.length) (by omega) (by omega))
  have HE := Lib.hid (he.1.below b1)
  have HF := Lib.hid (hf.1.below b1)
  have HM := Lib.hid hm
  clear he hf hm
  go_enter Try.func6, Try.ntmps6
  go_wp2_with fail
  rw [E1.out]
  refine HG.out.mono ?_
  rintro e w2 ⟨rfl, b2⟩
  have s2 := b2.size
  clear c0 c1 c2 c3 c4 c5 c6 c7
  obtain ⟨c0, c1, c2, c3, c4, c5, c6, c7⟩ := R1.out.below (by omega) b2
  have X2 := Lib.hid (checkR_yes (HE.out.below b2) (HF.out.below b2) (by omega) (by omega) HM.out)
  go_wp2_with fail
  refine X2.out.mono ?_
  rintro e w3 ⟨rfl, b3⟩
  have s3 := b3.size
  have B3 := b2.trans (b3.mono s2)
  clear c0 c1 c2 c3 c4 c5 c6 c7
  obtain ⟨c0, c1, c2, c3, c4, c5, c6, c7⟩ := R1.out.below (by omega) B3
  have BA := B3.alloc B3.size (.cells #[.int .i64 n.kind, .int .i64 n.stream, .int .i64 n.epoch, .int .i64 n.view, .int .i64 n.frm, .int .i64 m, .slice ae es.length ce, .slice af fs.length cf] 25)
  have sA := BA.size
  go_wp2_with fail
  refine (HW.out _).mono ?_
  rintro e w4 ⟨rfl, b4⟩
  go_wp2
  go_ret
  exact ⟨rfl, b1.trans ((BA.trans (b4.mono sA)).mono b1.size)⟩
set_option maxRecDepth 100000 in
set_option maxHeartbeats 8000000 in
theorem bare_3_no (n : RNum) {es : List Ent} {fs : List Spt} {ae af : Option Addr} {ce cf : Nat} (wh m : Int) (w : World) (he : EntsIn w (.slice ae es.length ce) es) (hf : SptsIn w (.slice af fs.length cf) fs) (hz1 : es.length ≤ 500) (hz2 : fs.length ≤ 1000) (hm : mayR n es fs = true) (h0 : m ≠ 0) (hc : wh % 6 = 3) (hw0 : 0 ≤ wh) (h3 : n.kind ≠ 3) (h4 : n.kind ≠ 4) :
    Calls Try.prog 6 #[.agg #[.int .i64 n.kind, .int .i64 n.stream, .int .i64 n.epoch, .int .i64 n.view, .int .i64 n.frm, .int .i64 n.length, .slice ae es.length ce, .slice af fs.length cf], .int .u8 wh, .int .i64 m] w fun e w' => e = .returned (.bool true) ∧ Below w.heap.size w w' := by
  obtain ⟨w1, e1, b1, s1, g1⟩ := boxed w (recCells n (.slice ae es.length ce) (.slice af fs.length cf)) 25
  have E1 := Lib.hid (show w.alloc (.cells #[.int .i64 n.kind, .int .i64 n.stream, .int .i64 n.epoch, .int .i64 n.view, .int .i64 n.frm, .int .i64 n.length, .slice ae es.length ce, .slice af fs.length cf] 25) = w1 from e1)
  have R1 := Lib.hid (show recAt w1 w.heap.size n (.slice ae es.length ce) (.slice af fs.length cf) from rec_cells g1)
  obtain ⟨c0, c1, c2, c3, c4, c5, c6, c7⟩ := R1.out
  clear e1 g1
  have HW := Lib.hid works_any
  have d0 : (m == 0) = false := by rw [beq_eq_false_iff_ne]; exact h0
  have hmod : wh.tmod 6 = 3 := by rw [Int.tmod_eq_emod_of_nonneg hw0]; exact hc
  have k3 : (n.kind == 3) = false := by rw [beq_eq_false_iff_ne]; exact h3
  have k4 : (n.kind == 4) = false := by rw [beq_eq_false_iff_ne]; exact h4
  have HB := Lib.hid (bare_more (n := n) (es := es) (fs := fs) 3 h0 (by simp [bareHas, h3, h4]))
  clear h0 h3 h4
  have HG := Lib.hid (great_no (w := w1) n (ae := ae) (af := af) (ce := ce) (cf := cf) (le := es.length) (lf := fs.length) (by omega) (by omega))
  have HE := Lib.hid (he.1.below b1)
  have HF := Lib.hid (hf.1.below b1)
  have HM := Lib.hid hm
  clear he hf hm
  go_enter Try.func6, Try.ntmps6
  go_wp2_with fail
  rw [E1.out]
  refine HG.out.mono ?_
  rintro e w2 ⟨rfl, b2⟩
  have s2 := b2.size
  clear c0 c1 c2 c3 c4 c5 c6 c7
  obtain ⟨c0, c1, c2, c3, c4, c5, c6, c7⟩ := R1.out.below (by omega) b2
  have X2 := Lib.hid (checkR_yes (HE.out.below b2) (HF.out.below b2) (by omega) (by omega) HM.out)
  go_wp2_with fail
  refine X2.out.mono ?_
  rintro e w3 ⟨rfl, b3⟩
  have s3 := b3.size
  have B3 := b2.trans (b3.mono s2)
  clear c0 c1 c2 c3 c4 c5 c6 c7
  obtain ⟨c0, c1, c2, c3, c4, c5, c6, c7⟩ := R1.out.below (by omega) B3
  have bA : Below w3.heap.size w3 (w3.alloc (.cells #[.int .i64 n.kind, .int .i64 n.stream, .int .i64 n.epoch, .int .i64 n.view, .int .i64 n.frm, .int .i64 m, .slice ae es.length ce, .slice af fs.length cf] 25)) := (Below.refl _ _).alloc (Nat.le_refl _) _
  have X4 := Lib.hid (checkR_no (n := bareSet n 3 m) ((HE.out.below B3).below bA) ((HF.out.below B3).below bA) (by omega) (by omega) HB.out)
  have BA := B3.trans (bA.mono B3.size)
  have sA := BA.size
  clear bA
  go_wp2_with fail
  refine X4.out.mono ?_
  rintro e w4 ⟨rfl, b4⟩
  go_wp2_with fail
  refine (HW.out _).mono ?_
  rintro e w5 ⟨rfl, b5⟩
  go_wp2
  go_ret
  exact ⟨rfl, b1.trans ((BA.trans ((b4.mono sA).trans (b5.mono (by have := b4.size; omega)))).mono b1.size)⟩
set_option maxRecDepth 100000 in
set_option maxHeartbeats 8000000 in
theorem bare_4_no (n : RNum) {es : List Ent} {fs : List Spt} {ae af : Option Addr} {ce cf : Nat} (wh m : Int) (w : World) (he : EntsIn w (.slice ae es.length ce) es) (hf : SptsIn w (.slice af fs.length cf) fs) (hz1 : es.length ≤ 500) (hz2 : fs.length ≤ 1000) (hm : mayR n es fs = true) (h0 : m ≠ 0) (hc : wh % 6 = 4) (hw0 : 0 ≤ wh) (h5 : n.kind ≠ 5) :
    Calls Try.prog 6 #[.agg #[.int .i64 n.kind, .int .i64 n.stream, .int .i64 n.epoch, .int .i64 n.view, .int .i64 n.frm, .int .i64 n.length, .slice ae es.length ce, .slice af fs.length cf], .int .u8 wh, .int .i64 m] w fun e w' => e = .returned (.bool true) ∧ Below w.heap.size w w' := by
  obtain ⟨w1, e1, b1, s1, g1⟩ := boxed w (recCells n (.slice ae es.length ce) (.slice af fs.length cf)) 25
  have E1 := Lib.hid (show w.alloc (.cells #[.int .i64 n.kind, .int .i64 n.stream, .int .i64 n.epoch, .int .i64 n.view, .int .i64 n.frm, .int .i64 n.length, .slice ae es.length ce, .slice af fs.length cf] 25) = w1 from e1)
  have R1 := Lib.hid (show recAt w1 w.heap.size n (.slice ae es.length ce) (.slice af fs.length cf) from rec_cells g1)
  obtain ⟨c0, c1, c2, c3, c4, c5, c6, c7⟩ := R1.out
  clear e1 g1
  have HW := Lib.hid works_any
  have d0 : (m == 0) = false := by rw [beq_eq_false_iff_ne]; exact h0
  have hmod : wh.tmod 6 = 4 := by rw [Int.tmod_eq_emod_of_nonneg hw0]; exact hc
  have k5 : (n.kind == 5) = false := by rw [beq_eq_false_iff_ne]; exact h5
  have HB := Lib.hid (bare_feed (n := n) (es := es) (fs := [⟨0, 0⟩]) (by simp) h5)
  clear h0 h5
  have HG := Lib.hid (great_no (w := w1) n (ae := ae) (af := af) (ce := ce) (cf := cf) (le := es.length) (lf := fs.length) (by omega) (by omega))
  have HE := Lib.hid (he.1.below b1)
  have HF := Lib.hid (hf.1.below b1)
  have HM := Lib.hid hm
  clear he hf hm
  go_enter Try.func6, Try.ntmps6
  go_wp2_with fail
  rw [E1.out]
  refine HG.out.mono ?_
  rintro e w2 ⟨rfl, b2⟩
  have s2 := b2.size
  clear c0 c1 c2 c3 c4 c5 c6 c7
  obtain ⟨c0, c1, c2, c3, c4, c5, c6, c7⟩ := R1.out.below (by omega) b2
  have X2 := Lib.hid (checkR_yes (HE.out.below b2) (HF.out.below b2) (by omega) (by omega) HM.out)
  go_wp2_with fail
  refine X2.out.mono ?_
  rintro e w3 ⟨rfl, b3⟩
  have s3 := b3.size
  have B3 := b2.trans (b3.mono s2)
  clear c0 c1 c2 c3 c4 c5 c6 c7
  obtain ⟨c0, c1, c2, c3, c4, c5, c6, c7⟩ := R1.out.below (by omega) B3
  have bA : Below w3.heap.size w3 ((w3.alloc (.cells #[.int .i64 n.kind, .int .i64 n.stream, .int .i64 n.epoch, .int .i64 n.view, .int .i64 n.frm, .int .i64 n.length, .slice ae es.length ce, .slice (some ⟨w3.heap.size + 1, 0, none⟩) 1 1] 25)).alloc (.cells #[.int .i64 0, .int .i64 0] 32)) := ((Below.refl _ _).alloc (Nat.le_refl _) _).alloc (by simp) _
  have BA := B3.trans (bA.mono B3.size)
  have sA := BA.size
  have X4 := Lib.hid (checkR_no (n := n) (((HE.out.below B3).below bA).rebase (w3.heap.size + 1 + 1) (by simp)) (spt_built (w3.alloc (.cells #[.int .i64 n.kind, .int .i64 n.stream, .int .i64 n.epoch, .int .i64 n.view, .int .i64 n.frm, .int .i64 n.length, .slice ae es.length ce, .slice (some ⟨w3.heap.size + 1, 0, none⟩) 1 1] 25)) (World.size_alloc _ _)) (by omega) (by simp) HB.out)
  clear bA
  go_wp2_with fail
  refine X4.out.mono ?_
  rintro e w4 ⟨rfl, b4⟩
  go_wp2_with fail
  refine (HW.out _).mono ?_
  rintro e w5 ⟨rfl, b5⟩
  go_wp2
  go_ret
  exact ⟨rfl, b1.trans ((BA.trans ((b4.mono sA).trans (b5.mono (by have := b4.size; omega)))).mono b1.size)⟩
set_option maxRecDepth 100000 in
set_option maxHeartbeats 8000000 in
theorem bare_4_5 (n : RNum) {es : List Ent} {fs : List Spt} {ae af : Option Addr} {ce cf : Nat} (wh m : Int) (w : World) (he : EntsIn w (.slice ae es.length ce) es) (hf : SptsIn w (.slice af fs.length cf) fs) (hz1 : es.length ≤ 500) (hz2 : fs.length ≤ 1000) (hm : mayR n es fs = true) (h0 : m ≠ 0) (hc : wh % 6 = 4) (hw0 : 0 ≤ wh) (hk : n.kind = 5) :
    Calls Try.prog 6 #[.agg #[.int .i64 n.kind, .int .i64 n.stream, .int .i64 n.epoch, .int .i64 n.view, .int .i64 n.frm, .int .i64 n.length, .slice ae es.length ce, .slice af fs.length cf], .int .u8 wh, .int .i64 m] w fun e w' => e = .returned (.bool true) ∧ Below w.heap.size w w' := by
  obtain ⟨w1, e1, b1, s1, g1⟩ := boxed w (recCells n (.slice ae es.length ce) (.slice af fs.length cf)) 25
  have E1 := Lib.hid (show w.alloc (.cells #[.int .i64 n.kind, .int .i64 n.stream, .int .i64 n.epoch, .int .i64 n.view, .int .i64 n.frm, .int .i64 n.length, .slice ae es.length ce, .slice af fs.length cf] 25) = w1 from e1)
  have R1 := Lib.hid (show recAt w1 w.heap.size n (.slice ae es.length ce) (.slice af fs.length cf) from rec_cells g1)
  obtain ⟨c0, c1, c2, c3, c4, c5, c6, c7⟩ := R1.out
  clear e1 g1
  have HW := Lib.hid works_any
  have d0 : (m == 0) = false := by rw [beq_eq_false_iff_ne]; exact h0
  have hmod : wh.tmod 6 = 4 := by rw [Int.tmod_eq_emod_of_nonneg hw0]; exact hc
  have k5 : (n.kind == 5) = true := by rw [hk]; rfl
  clear h0 hk
  have HG := Lib.hid (great_no (w := w1) n (ae := ae) (af := af) (ce := ce) (cf := cf) (le := es.length) (lf := fs.length) (by omega) (by omega))
  have HE := Lib.hid (he.1.below b1)
  have HF := Lib.hid (hf.1.below b1)
  have HM := Lib.hid hm
  clear he hf hm
  go_enter Try.func6, Try.ntmps6
  go_wp2_with fail
  rw [E1.out]
  refine HG.out.mono ?_
  rintro e w2 ⟨rfl, b2⟩
  have s2 := b2.size
  clear c0 c1 c2 c3 c4 c5 c6 c7
  obtain ⟨c0, c1, c2, c3, c4, c5, c6, c7⟩ := R1.out.below (by omega) b2
  have X2 := Lib.hid (checkR_yes (HE.out.below b2) (HF.out.below b2) (by omega) (by omega) HM.out)
  go_wp2_with fail
  refine X2.out.mono ?_
  rintro e w3 ⟨rfl, b3⟩
  have s3 := b3.size
  have B3 := b2.trans (b3.mono s2)
  clear c0 c1 c2 c3 c4 c5 c6 c7
  obtain ⟨c0, c1, c2, c3, c4, c5, c6, c7⟩ := R1.out.below (by omega) B3
  have bA : Below w3.heap.size w3 ((w3.alloc (.cells #[.int .i64 n.kind, .int .i64 n.stream, .int .i64 n.epoch, .int .i64 n.view, .int .i64 n.frm, .int .i64 n.length, .slice ae es.length ce, .slice (some ⟨w3.heap.size + 1, 0, none⟩) 1 1] 25)).alloc (.cells #[.int .i64 0, .int .i64 0] 32)) := ((Below.refl _ _).alloc (Nat.le_refl _) _).alloc (by simp) _
  have BA := B3.trans (bA.mono B3.size)
  have sA := BA.size
  go_wp2_with fail
  refine (HW.out _).mono ?_
  rintro e w4 ⟨rfl, b4⟩
  go_wp2
  go_ret
  exact ⟨rfl, b1.trans ((BA.trans (b4.mono sA)).mono b1.size)⟩
set_option maxRecDepth 100000 in
set_option maxHeartbeats 8000000 in
theorem bare_5_2y (n : RNum) {es : List Ent} {fs : List Spt} {ae af : Option Addr} {ce cf : Nat} (wh m : Int) (w : World) (he : EntsIn w (.slice ae es.length ce) es) (hf : SptsIn w (.slice af fs.length cf) fs) (hz1 : es.length ≤ 500) (hz2 : fs.length ≤ 1000) (hm : mayR n es fs = true) (h0 : m ≠ 0) (hc : wh % 6 = 5) (hw0 : 0 ≤ wh) (hk : n.kind = 2) (hq : n.frm < 64) :
    Calls Try.prog 6 #[.agg #[.int .i64 n.kind, .int .i64 n.stream, .int .i64 n.epoch, .int .i64 n.view, .int .i64 n.frm, .int .i64 n.length, .slice ae es.length ce, .slice af fs.length cf], .int .u8 wh, .int .i64 m] w fun e w' => e = .returned (.bool true) ∧ Below w.heap.size w w' := by
  obtain ⟨w1, e1, b1, s1, g1⟩ := boxed w (recCells n (.slice ae es.length ce) (.slice af fs.length cf)) 25
  have E1 := Lib.hid (show w.alloc (.cells #[.int .i64 n.kind, .int .i64 n.stream, .int .i64 n.epoch, .int .i64 n.view, .int .i64 n.frm, .int .i64 n.length, .slice ae es.length ce, .slice af fs.length cf] 25) = w1 from e1)
  have R1 := Lib.hid (show recAt w1 w.heap.size n (.slice ae es.length ce) (.slice af fs.length cf) from rec_cells g1)
  obtain ⟨c0, c1, c2, c3, c4, c5, c6, c7⟩ := R1.out
  clear e1 g1
  have HW := Lib.hid works_any
  have d0 : (m == 0) = false := by rw [beq_eq_false_iff_ne]; exact h0
  have hmod : wh.tmod 6 = 5 := by rw [Int.tmod_eq_emod_of_nonneg hw0]; exact hc
  have k2 : (n.kind == 2) = true := by rw [hk]; rfl
  have k4 : (n.kind == 4) = false := by rw [hk]; rfl
  have dq : decide (n.frm < 64) = true := decide_eq_true hq
  have HB := Lib.hid (show mayR n [bareEnt n.stream] fs = true by rw [bare_ent hm, k2, k4, dq]; rfl)
  clear h0 hk hq
  have HG := Lib.hid (great_no (w := w1) n (ae := ae) (af := af) (ce := ce) (cf := cf) (le := es.length) (lf := fs.length) (by omega) (by omega))
  have HE := Lib.hid (he.1.below b1)
  have HF := Lib.hid (hf.1.below b1)
  have HM := Lib.hid hm
  clear he hf hm
  go_enter Try.func6, Try.ntmps6
  go_wp2_with fail
  rw [E1.out]
  refine HG.out.mono ?_
  rintro e w2 ⟨rfl, b2⟩
  have s2 := b2.size
  clear c0 c1 c2 c3 c4 c5 c6 c7
  obtain ⟨c0, c1, c2, c3, c4, c5, c6, c7⟩ := R1.out.below (by omega) b2
  have X2 := Lib.hid (checkR_yes (HE.out.below b2) (HF.out.below b2) (by omega) (by omega) HM.out)
  go_wp2_with fail
  refine X2.out.mono ?_
  rintro e w3 ⟨rfl, b3⟩
  have s3 := b3.size
  have B3 := b2.trans (b3.mono s2)
  clear c0 c1 c2 c3 c4 c5 c6 c7
  obtain ⟨c0, c1, c2, c3, c4, c5, c6, c7⟩ := R1.out.below (by omega) B3
  have bA : Below w3.heap.size w3 ((w3.alloc (.cells #[.int .i64 n.kind, .int .i64 n.stream, .int .i64 n.epoch, .int .i64 n.view, .int .i64 n.frm, .int .i64 n.length, .slice (some ⟨w3.heap.size + 1, 0, none⟩) 1 1, .slice af fs.length cf] 25)).alloc (.cells #[.int .i64 1, .int .i64 1, .int .i64 n.stream, .int .i64 0, .int .i64 1, .int .i64 0] 30)) := ((Below.refl _ _).alloc (Nat.le_refl _) _).alloc (by simp) _
  have BA := B3.trans (bA.mono B3.size)
  have sA := BA.size
  have X4 := Lib.hid (checkR_yes (n := n) (ent_built n.stream (w3.alloc (.cells #[.int .i64 n.kind, .int .i64 n.stream, .int .i64 n.epoch, .int .i64 n.view, .int .i64 n.frm, .int .i64 n.length, .slice (some ⟨w3.heap.size + 1, 0, none⟩) 1 1, .slice af fs.length cf] 25)) (World.size_alloc _ _)) (((HF.out.below B3).below bA).rebase (w3.heap.size + 1 + 1) (by simp)) (by simp) (by omega) HB.out)
  have hlt : w.heap.size < w3.heap.size := by have := B3.size; omega
  have y1 := (((Below.refl w3.heap.size w3).alloc (Nat.le_refl _) (.cells #[.int .i64 n.kind, .int .i64 n.stream, .int .i64 n.epoch, .int .i64 n.view, .int .i64 n.frm, .int .i64 n.length, .slice ae es.length ce, .slice af fs.length cf] 25)).cell (p := ⟨w.heap.size, 1, none⟩) hlt).trans c1
  have z4 := (bA.cell (p := ⟨w.heap.size, 4, none⟩) hlt).trans c4
  have z5 := (bA.cell (p := ⟨w.heap.size, 5, none⟩) hlt).trans c5
  clear bA
  go_wp2_with fail
  refine X4.out.mono ?_
  rintro e w4 ⟨rfl, b4⟩
  go_wp2_with fail
  refine (HW.out _).mono ?_
  rintro e w5 ⟨rfl, b5⟩
  go_wp2
  go_ret
  exact ⟨rfl, b1.trans ((BA.trans ((b4.mono sA).trans (b5.mono (by have := b4.size; omega)))).mono b1.size)⟩
set_option maxRecDepth 100000 in
set_option maxHeartbeats 8000000 in
theorem bare_5_2n (n : RNum) {es : List Ent} {fs : List Spt} {ae af : Option Addr} {ce cf : Nat} (wh m : Int) (w : World) (he : EntsIn w (.slice ae es.length ce) es) (hf : SptsIn w (.slice af fs.length cf) fs) (hz1 : es.length ≤ 500) (hz2 : fs.length ≤ 1000) (hm : mayR n es fs = true) (h0 : m ≠ 0) (hc : wh % 6 = 5) (hw0 : 0 ≤ wh) (hk : n.kind = 2) (hq : ¬ n.frm < 64) :
    Calls Try.prog 6 #[.agg #[.int .i64 n.kind, .int .i64 n.stream, .int .i64 n.epoch, .int .i64 n.view, .int .i64 n.frm, .int .i64 n.length, .slice ae es.length ce, .slice af fs.length cf], .int .u8 wh, .int .i64 m] w fun e w' => e = .returned (.bool true) ∧ Below w.heap.size w w' := by
  obtain ⟨w1, e1, b1, s1, g1⟩ := boxed w (recCells n (.slice ae es.length ce) (.slice af fs.length cf)) 25
  have E1 := Lib.hid (show w.alloc (.cells #[.int .i64 n.kind, .int .i64 n.stream, .int .i64 n.epoch, .int .i64 n.view, .int .i64 n.frm, .int .i64 n.length, .slice ae es.length ce, .slice af fs.length cf] 25) = w1 from e1)
  have R1 := Lib.hid (show recAt w1 w.heap.size n (.slice ae es.length ce) (.slice af fs.length cf) from rec_cells g1)
  obtain ⟨c0, c1, c2, c3, c4, c5, c6, c7⟩ := R1.out
  clear e1 g1
  have HW := Lib.hid works_any
  have d0 : (m == 0) = false := by rw [beq_eq_false_iff_ne]; exact h0
  have hmod : wh.tmod 6 = 5 := by rw [Int.tmod_eq_emod_of_nonneg hw0]; exact hc
  have k2 : (n.kind == 2) = true := by rw [hk]; rfl
  have k4 : (n.kind == 4) = false := by rw [hk]; rfl
  have dq : decide (n.frm < 64) = false := decide_eq_false hq
  have HB := Lib.hid (show mayR n [bareEnt n.stream] fs = false by rw [bare_ent hm, k2, k4, dq]; rfl)
  clear h0 hk hq
  have HG := Lib.hid (great_no (w := w1) n (ae := ae) (af := af) (ce := ce) (cf := cf) (le := es.length) (lf := fs.length) (by omega) (by omega))
  have HE := Lib.hid (he.1.below b1)
  have HF := Lib.hid (hf.1.below b1)
  have HM := Lib.hid hm
  clear he hf hm
  go_enter Try.func6, Try.ntmps6
  go_wp2_with fail
  rw [E1.out]
  refine HG.out.mono ?_
  rintro e w2 ⟨rfl, b2⟩
  have s2 := b2.size
  clear c0 c1 c2 c3 c4 c5 c6 c7
  obtain ⟨c0, c1, c2, c3, c4, c5, c6, c7⟩ := R1.out.below (by omega) b2
  have X2 := Lib.hid (checkR_yes (HE.out.below b2) (HF.out.below b2) (by omega) (by omega) HM.out)
  go_wp2_with fail
  refine X2.out.mono ?_
  rintro e w3 ⟨rfl, b3⟩
  have s3 := b3.size
  have B3 := b2.trans (b3.mono s2)
  clear c0 c1 c2 c3 c4 c5 c6 c7
  obtain ⟨c0, c1, c2, c3, c4, c5, c6, c7⟩ := R1.out.below (by omega) B3
  have bA : Below w3.heap.size w3 ((w3.alloc (.cells #[.int .i64 n.kind, .int .i64 n.stream, .int .i64 n.epoch, .int .i64 n.view, .int .i64 n.frm, .int .i64 n.length, .slice (some ⟨w3.heap.size + 1, 0, none⟩) 1 1, .slice af fs.length cf] 25)).alloc (.cells #[.int .i64 1, .int .i64 1, .int .i64 n.stream, .int .i64 0, .int .i64 1, .int .i64 0] 30)) := ((Below.refl _ _).alloc (Nat.le_refl _) _).alloc (by simp) _
  have BA := B3.trans (bA.mono B3.size)
  have sA := BA.size
  have X4 := Lib.hid (checkR_no (n := n) (ent_built n.stream (w3.alloc (.cells #[.int .i64 n.kind, .int .i64 n.stream, .int .i64 n.epoch, .int .i64 n.view, .int .i64 n.frm, .int .i64 n.length, .slice (some ⟨w3.heap.size + 1, 0, none⟩) 1 1, .slice af fs.length cf] 25)) (World.size_alloc _ _)) (((HF.out.below B3).below bA).rebase (w3.heap.size + 1 + 1) (by simp)) (by simp) (by omega) HB.out)
  have hlt : w.heap.size < w3.heap.size := by have := B3.size; omega
  have y1 := (((Below.refl w3.heap.size w3).alloc (Nat.le_refl _) (.cells #[.int .i64 n.kind, .int .i64 n.stream, .int .i64 n.epoch, .int .i64 n.view, .int .i64 n.frm, .int .i64 n.length, .slice ae es.length ce, .slice af fs.length cf] 25)).cell (p := ⟨w.heap.size, 1, none⟩) hlt).trans c1
  have z4 := (bA.cell (p := ⟨w.heap.size, 4, none⟩) hlt).trans c4
  have z5 := (bA.cell (p := ⟨w.heap.size, 5, none⟩) hlt).trans c5
  clear bA
  go_wp2_with fail
  refine X4.out.mono ?_
  rintro e w4 ⟨rfl, b4⟩
  go_wp2_with fail
  refine (HW.out _).mono ?_
  rintro e w5 ⟨rfl, b5⟩
  go_wp2
  go_ret
  exact ⟨rfl, b1.trans ((BA.trans ((b4.mono sA).trans (b5.mono (by have := b4.size; omega)))).mono b1.size)⟩
set_option maxRecDepth 100000 in
set_option maxHeartbeats 8000000 in
theorem bare_5_4y (n : RNum) {es : List Ent} {fs : List Spt} {ae af : Option Addr} {ce cf : Nat} (wh m : Int) (w : World) (he : EntsIn w (.slice ae es.length ce) es) (hf : SptsIn w (.slice af fs.length cf) fs) (hz1 : es.length ≤ 500) (hz2 : fs.length ≤ 1000) (hm : mayR n es fs = true) (h0 : m ≠ 0) (hc : wh % 6 = 5) (hw0 : 0 ≤ wh) (hk : n.kind = 4) (hq : n.length ≤ 1) :
    Calls Try.prog 6 #[.agg #[.int .i64 n.kind, .int .i64 n.stream, .int .i64 n.epoch, .int .i64 n.view, .int .i64 n.frm, .int .i64 n.length, .slice ae es.length ce, .slice af fs.length cf], .int .u8 wh, .int .i64 m] w fun e w' => e = .returned (.bool true) ∧ Below w.heap.size w w' := by
  obtain ⟨w1, e1, b1, s1, g1⟩ := boxed w (recCells n (.slice ae es.length ce) (.slice af fs.length cf)) 25
  have E1 := Lib.hid (show w.alloc (.cells #[.int .i64 n.kind, .int .i64 n.stream, .int .i64 n.epoch, .int .i64 n.view, .int .i64 n.frm, .int .i64 n.length, .slice ae es.length ce, .slice af fs.length cf] 25) = w1 from e1)
  have R1 := Lib.hid (show recAt w1 w.heap.size n (.slice ae es.length ce) (.slice af fs.length cf) from rec_cells g1)
  obtain ⟨c0, c1, c2, c3, c4, c5, c6, c7⟩ := R1.out
  clear e1 g1
  have HW := Lib.hid works_any
  have d0 : (m == 0) = false := by rw [beq_eq_false_iff_ne]; exact h0
  have hmod : wh.tmod 6 = 5 := by rw [Int.tmod_eq_emod_of_nonneg hw0]; exact hc
  have k2 : (n.kind == 2) = false := by rw [hk]; rfl
  have k4 : (n.kind == 4) = true := by rw [hk]; rfl
  have dq : decide (n.length ≤ 1) = true := decide_eq_true hq
  have HB := Lib.hid (show mayR n [bareEnt n.stream] fs = true by rw [bare_ent hm, k2, k4, dq]; rfl)
  clear h0 hk hq
  have HG := Lib.hid (great_no (w := w1) n (ae := ae) (af := af) (ce := ce) (cf := cf) (le := es.length) (lf := fs.length) (by omega) (by omega))
  have HE := Lib.hid (he.1.below b1)
  have HF := Lib.hid (hf.1.below b1)
  have HM := Lib.hid hm
  clear he hf hm
  go_enter Try.func6, Try.ntmps6
  go_wp2_with fail
  rw [E1.out]
  refine HG.out.mono ?_
  rintro e w2 ⟨rfl, b2⟩
  have s2 := b2.size
  clear c0 c1 c2 c3 c4 c5 c6 c7
  obtain ⟨c0, c1, c2, c3, c4, c5, c6, c7⟩ := R1.out.below (by omega) b2
  have X2 := Lib.hid (checkR_yes (HE.out.below b2) (HF.out.below b2) (by omega) (by omega) HM.out)
  go_wp2_with fail
  refine X2.out.mono ?_
  rintro e w3 ⟨rfl, b3⟩
  have s3 := b3.size
  have B3 := b2.trans (b3.mono s2)
  clear c0 c1 c2 c3 c4 c5 c6 c7
  obtain ⟨c0, c1, c2, c3, c4, c5, c6, c7⟩ := R1.out.below (by omega) B3
  have bA : Below w3.heap.size w3 ((w3.alloc (.cells #[.int .i64 n.kind, .int .i64 n.stream, .int .i64 n.epoch, .int .i64 n.view, .int .i64 n.frm, .int .i64 n.length, .slice (some ⟨w3.heap.size + 1, 0, none⟩) 1 1, .slice af fs.length cf] 25)).alloc (.cells #[.int .i64 1, .int .i64 1, .int .i64 n.stream, .int .i64 0, .int .i64 1, .int .i64 0] 30)) := ((Below.refl _ _).alloc (Nat.le_refl _) _).alloc (by simp) _
  have BA := B3.trans (bA.mono B3.size)
  have sA := BA.size
  have X4 := Lib.hid (checkR_yes (n := n) (ent_built n.stream (w3.alloc (.cells #[.int .i64 n.kind, .int .i64 n.stream, .int .i64 n.epoch, .int .i64 n.view, .int .i64 n.frm, .int .i64 n.length, .slice (some ⟨w3.heap.size + 1, 0, none⟩) 1 1, .slice af fs.length cf] 25)) (World.size_alloc _ _)) (((HF.out.below B3).below bA).rebase (w3.heap.size + 1 + 1) (by simp)) (by simp) (by omega) HB.out)
  have hlt : w.heap.size < w3.heap.size := by have := B3.size; omega
  have y1 := (((Below.refl w3.heap.size w3).alloc (Nat.le_refl _) (.cells #[.int .i64 n.kind, .int .i64 n.stream, .int .i64 n.epoch, .int .i64 n.view, .int .i64 n.frm, .int .i64 n.length, .slice ae es.length ce, .slice af fs.length cf] 25)).cell (p := ⟨w.heap.size, 1, none⟩) hlt).trans c1
  have z4 := (bA.cell (p := ⟨w.heap.size, 4, none⟩) hlt).trans c4
  have z5 := (bA.cell (p := ⟨w.heap.size, 5, none⟩) hlt).trans c5
  clear bA
  go_wp2_with fail
  refine X4.out.mono ?_
  rintro e w4 ⟨rfl, b4⟩
  go_wp2_with fail
  refine (HW.out _).mono ?_
  rintro e w5 ⟨rfl, b5⟩
  go_wp2
  go_ret
  exact ⟨rfl, b1.trans ((BA.trans ((b4.mono sA).trans (b5.mono (by have := b4.size; omega)))).mono b1.size)⟩
set_option maxRecDepth 100000 in
set_option maxHeartbeats 8000000 in
theorem bare_5_4n (n : RNum) {es : List Ent} {fs : List Spt} {ae af : Option Addr} {ce cf : Nat} (wh m : Int) (w : World) (he : EntsIn w (.slice ae es.length ce) es) (hf : SptsIn w (.slice af fs.length cf) fs) (hz1 : es.length ≤ 500) (hz2 : fs.length ≤ 1000) (hm : mayR n es fs = true) (h0 : m ≠ 0) (hc : wh % 6 = 5) (hw0 : 0 ≤ wh) (hk : n.kind = 4) (hq : ¬ n.length ≤ 1) :
    Calls Try.prog 6 #[.agg #[.int .i64 n.kind, .int .i64 n.stream, .int .i64 n.epoch, .int .i64 n.view, .int .i64 n.frm, .int .i64 n.length, .slice ae es.length ce, .slice af fs.length cf], .int .u8 wh, .int .i64 m] w fun e w' => e = .returned (.bool true) ∧ Below w.heap.size w w' := by
  obtain ⟨w1, e1, b1, s1, g1⟩ := boxed w (recCells n (.slice ae es.length ce) (.slice af fs.length cf)) 25
  have E1 := Lib.hid (show w.alloc (.cells #[.int .i64 n.kind, .int .i64 n.stream, .int .i64 n.epoch, .int .i64 n.view, .int .i64 n.frm, .int .i64 n.length, .slice ae es.length ce, .slice af fs.length cf] 25) = w1 from e1)
  have R1 := Lib.hid (show recAt w1 w.heap.size n (.slice ae es.length ce) (.slice af fs.length cf) from rec_cells g1)
  obtain ⟨c0, c1, c2, c3, c4, c5, c6, c7⟩ := R1.out
  clear e1 g1
  have HW := Lib.hid works_any
  have d0 : (m == 0) = false := by rw [beq_eq_false_iff_ne]; exact h0
  have hmod : wh.tmod 6 = 5 := by rw [Int.tmod_eq_emod_of_nonneg hw0]; exact hc
  have k2 : (n.kind == 2) = false := by rw [hk]; rfl
  have k4 : (n.kind == 4) = true := by rw [hk]; rfl
  have dq : decide (n.length ≤ 1) = false := decide_eq_false hq
  have HB := Lib.hid (show mayR n [bareEnt n.stream] fs = false by rw [bare_ent hm, k2, k4, dq]; rfl)
  clear h0 hk hq
  have HG := Lib.hid (great_no (w := w1) n (ae := ae) (af := af) (ce := ce) (cf := cf) (le := es.length) (lf := fs.length) (by omega) (by omega))
  have HE := Lib.hid (he.1.below b1)
  have HF := Lib.hid (hf.1.below b1)
  have HM := Lib.hid hm
  clear he hf hm
  go_enter Try.func6, Try.ntmps6
  go_wp2_with fail
  rw [E1.out]
  refine HG.out.mono ?_
  rintro e w2 ⟨rfl, b2⟩
  have s2 := b2.size
  clear c0 c1 c2 c3 c4 c5 c6 c7
  obtain ⟨c0, c1, c2, c3, c4, c5, c6, c7⟩ := R1.out.below (by omega) b2
  have X2 := Lib.hid (checkR_yes (HE.out.below b2) (HF.out.below b2) (by omega) (by omega) HM.out)
  go_wp2_with fail
  refine X2.out.mono ?_
  rintro e w3 ⟨rfl, b3⟩
  have s3 := b3.size
  have B3 := b2.trans (b3.mono s2)
  clear c0 c1 c2 c3 c4 c5 c6 c7
  obtain ⟨c0, c1, c2, c3, c4, c5, c6, c7⟩ := R1.out.below (by omega) B3
  have bA : Below w3.heap.size w3 ((w3.alloc (.cells #[.int .i64 n.kind, .int .i64 n.stream, .int .i64 n.epoch, .int .i64 n.view, .int .i64 n.frm, .int .i64 n.length, .slice (some ⟨w3.heap.size + 1, 0, none⟩) 1 1, .slice af fs.length cf] 25)).alloc (.cells #[.int .i64 1, .int .i64 1, .int .i64 n.stream, .int .i64 0, .int .i64 1, .int .i64 0] 30)) := ((Below.refl _ _).alloc (Nat.le_refl _) _).alloc (by simp) _
  have BA := B3.trans (bA.mono B3.size)
  have sA := BA.size
  have X4 := Lib.hid (checkR_no (n := n) (ent_built n.stream (w3.alloc (.cells #[.int .i64 n.kind, .int .i64 n.stream, .int .i64 n.epoch, .int .i64 n.view, .int .i64 n.frm, .int .i64 n.length, .slice (some ⟨w3.heap.size + 1, 0, none⟩) 1 1, .slice af fs.length cf] 25)) (World.size_alloc _ _)) (((HF.out.below B3).below bA).rebase (w3.heap.size + 1 + 1) (by simp)) (by simp) (by omega) HB.out)
  have hlt : w.heap.size < w3.heap.size := by have := B3.size; omega
  have y1 := (((Below.refl w3.heap.size w3).alloc (Nat.le_refl _) (.cells #[.int .i64 n.kind, .int .i64 n.stream, .int .i64 n.epoch, .int .i64 n.view, .int .i64 n.frm, .int .i64 n.length, .slice ae es.length ce, .slice af fs.length cf] 25)).cell (p := ⟨w.heap.size, 1, none⟩) hlt).trans c1
  have z4 := (bA.cell (p := ⟨w.heap.size, 4, none⟩) hlt).trans c4
  have z5 := (bA.cell (p := ⟨w.heap.size, 5, none⟩) hlt).trans c5
  clear bA
  go_wp2_with fail
  refine X4.out.mono ?_
  rintro e w4 ⟨rfl, b4⟩
  go_wp2_with fail
  refine (HW.out _).mono ?_
  rintro e w5 ⟨rfl, b5⟩
  go_wp2
  go_ret
  exact ⟨rfl, b1.trans ((BA.trans ((b4.mono sA).trans (b5.mono (by have := b4.size; omega)))).mono b1.size)⟩
set_option maxRecDepth 100000 in
set_option maxHeartbeats 8000000 in
theorem bare_5_n (n : RNum) {es : List Ent} {fs : List Spt} {ae af : Option Addr} {ce cf : Nat} (wh m : Int) (w : World) (he : EntsIn w (.slice ae es.length ce) es) (hf : SptsIn w (.slice af fs.length cf) fs) (hz1 : es.length ≤ 500) (hz2 : fs.length ≤ 1000) (hm : mayR n es fs = true) (h0 : m ≠ 0) (hc : wh % 6 = 5) (hw0 : 0 ≤ wh) (h2 : n.kind ≠ 2) (h4 : n.kind ≠ 4) :
    Calls Try.prog 6 #[.agg #[.int .i64 n.kind, .int .i64 n.stream, .int .i64 n.epoch, .int .i64 n.view, .int .i64 n.frm, .int .i64 n.length, .slice ae es.length ce, .slice af fs.length cf], .int .u8 wh, .int .i64 m] w fun e w' => e = .returned (.bool true) ∧ Below w.heap.size w w' := by
  obtain ⟨w1, e1, b1, s1, g1⟩ := boxed w (recCells n (.slice ae es.length ce) (.slice af fs.length cf)) 25
  have E1 := Lib.hid (show w.alloc (.cells #[.int .i64 n.kind, .int .i64 n.stream, .int .i64 n.epoch, .int .i64 n.view, .int .i64 n.frm, .int .i64 n.length, .slice ae es.length ce, .slice af fs.length cf] 25) = w1 from e1)
  have R1 := Lib.hid (show recAt w1 w.heap.size n (.slice ae es.length ce) (.slice af fs.length cf) from rec_cells g1)
  obtain ⟨c0, c1, c2, c3, c4, c5, c6, c7⟩ := R1.out
  clear e1 g1
  have HW := Lib.hid works_any
  have d0 : (m == 0) = false := by rw [beq_eq_false_iff_ne]; exact h0
  have hmod : wh.tmod 6 = 5 := by rw [Int.tmod_eq_emod_of_nonneg hw0]; exact hc
  have k2 : (n.kind == 2) = false := by rw [beq_eq_false_iff_ne]; exact h2
  have k4 : (n.kind == 4) = false := by rw [beq_eq_false_iff_ne]; exact h4
  have HB := Lib.hid (show mayR n [bareEnt n.stream] fs = false by rw [bare_ent hm, k2, k4]; rfl)
  clear h0 h2 h4
  have HG := Lib.hid (great_no (w := w1) n (ae := ae) (af := af) (ce := ce) (cf := cf) (le := es.length) (lf := fs.length) (by omega) (by omega))
  have HE := Lib.hid (he.1.below b1)
  have HF := Lib.hid (hf.1.below b1)
  have HM := Lib.hid hm
  clear he hf hm
  go_enter Try.func6, Try.ntmps6
  go_wp2_with fail
  rw [E1.out]
  refine HG.out.mono ?_
  rintro e w2 ⟨rfl, b2⟩
  have s2 := b2.size
  clear c0 c1 c2 c3 c4 c5 c6 c7
  obtain ⟨c0, c1, c2, c3, c4, c5, c6, c7⟩ := R1.out.below (by omega) b2
  have X2 := Lib.hid (checkR_yes (HE.out.below b2) (HF.out.below b2) (by omega) (by omega) HM.out)
  go_wp2_with fail
  refine X2.out.mono ?_
  rintro e w3 ⟨rfl, b3⟩
  have s3 := b3.size
  have B3 := b2.trans (b3.mono s2)
  clear c0 c1 c2 c3 c4 c5 c6 c7
  obtain ⟨c0, c1, c2, c3, c4, c5, c6, c7⟩ := R1.out.below (by omega) B3
  have bA : Below w3.heap.size w3 ((w3.alloc (.cells #[.int .i64 n.kind, .int .i64 n.stream, .int .i64 n.epoch, .int .i64 n.view, .int .i64 n.frm, .int .i64 n.length, .slice (some ⟨w3.heap.size + 1, 0, none⟩) 1 1, .slice af fs.length cf] 25)).alloc (.cells #[.int .i64 1, .int .i64 1, .int .i64 n.stream, .int .i64 0, .int .i64 1, .int .i64 0] 30)) := ((Below.refl _ _).alloc (Nat.le_refl _) _).alloc (by simp) _
  have BA := B3.trans (bA.mono B3.size)
  have sA := BA.size
  have X4 := Lib.hid (checkR_no (n := n) (ent_built n.stream (w3.alloc (.cells #[.int .i64 n.kind, .int .i64 n.stream, .int .i64 n.epoch, .int .i64 n.view, .int .i64 n.frm, .int .i64 n.length, .slice (some ⟨w3.heap.size + 1, 0, none⟩) 1 1, .slice af fs.length cf] 25)) (World.size_alloc _ _)) (((HF.out.below B3).below bA).rebase (w3.heap.size + 1 + 1) (by simp)) (by simp) (by omega) HB.out)
  have hlt : w.heap.size < w3.heap.size := by have := B3.size; omega
  have y1 := (((Below.refl w3.heap.size w3).alloc (Nat.le_refl _) (.cells #[.int .i64 n.kind, .int .i64 n.stream, .int .i64 n.epoch, .int .i64 n.view, .int .i64 n.frm, .int .i64 n.length, .slice ae es.length ce, .slice af fs.length cf] 25)).cell (p := ⟨w.heap.size, 1, none⟩) hlt).trans c1
  have z4 := (bA.cell (p := ⟨w.heap.size, 4, none⟩) hlt).trans c4
  have z5 := (bA.cell (p := ⟨w.heap.size, 5, none⟩) hlt).trans c5
  clear bA
  go_wp2_with fail
  refine X4.out.mono ?_
  rintro e w4 ⟨rfl, b4⟩
  go_wp2_with fail
  refine (HW.out _).mono ?_
  rintro e w5 ⟨rfl, b5⟩
  go_wp2
  go_ret
  exact ⟨rfl, b1.trans ((BA.trans ((b4.mono sA).trans (b5.mono (by have := b4.size; omega)))).mono b1.size)⟩
theorem mod6 {a : Int} (_h : 0 ≤ a) : a % 6 = 0 ∨ a % 6 = 1 ∨ a % 6 = 2 ∨ a % 6 = 3 ∨ a % 6 = 4 ∨ a % 6 = 5 := by omega
theorem recordsBare_walk (n : RNum) (es : List Ent) (fs : List Spt) (v : Value) (wh m : Int) (hw : (Lit.int .u8 wh).wf = true) (_hm : (Lit.int .i64 m).wf = true) (w : World) (hR : RecIn w v n es fs) :
    Calls Try.prog 6 #[v, .int .u8 wh, .int .i64 m] w fun e w' => e = .returned (.bool true) ∧ Below w.heap.size w w' := by
  obtain ⟨ae, ce, af, cf, rfl, _, he, hf⟩ := hR.parts
  have hw0 : 0 ≤ wh := by
    simp only [Lit.wf, Bool.and_eq_true, decide_eq_true_eq] at hw
    exact hw.1
  by_cases hgr : 500 < es.length ∨ 1000 < fs.length
  · exact bare_great n wh m w hgr
  · have hz1 : es.length ≤ 500 := by omega
    have hz2 : fs.length ≤ 1000 := by omega
    cases hm : mayR n es fs with
    | false => exact bare_not n wh m w he hf hz1 hz2 hm
    | true =>
      by_cases h0 : m = 0
      · exact bare_zero n wh m w he hf hz1 hz2 hm h0
      · rcases mod6 hw0 with hc | hc | hc | hc | hc | hc
        · by_cases h1 : n.kind = 1
          · exact bare_0_1 n wh m w he hf hz1 hz2 hm h0 hc hw0 h1
          · by_cases h2 : n.kind = 2
            · exact bare_0_2 n wh m w he hf hz1 hz2 hm h0 hc hw0 h2
            · by_cases h4 : n.kind = 4
              · exact bare_0_4 n wh m w he hf hz1 hz2 hm h0 hc hw0 h4
              · exact bare_0_no n wh m w he hf hz1 hz2 hm h0 hc hw0 h1 h2 h4
        · by_cases h4 : n.kind = 4
          · exact bare_1_4 n wh m w he hf hz1 hz2 hm h0 hc hw0 h4
          · exact bare_1_no n wh m w he hf hz1 hz2 hm h0 hc hw0 h4
        · by_cases h2 : n.kind = 2
          · exact bare_2_2 n wh m w he hf hz1 hz2 hm h0 hc hw0 h2
          · exact bare_2_no n wh m w he hf hz1 hz2 hm h0 hc hw0 h2
        · by_cases h3 : n.kind = 3
          · exact bare_3_3 n wh m w he hf hz1 hz2 hm h0 hc hw0 h3
          · by_cases h4 : n.kind = 4
            · exact bare_3_4 n wh m w he hf hz1 hz2 hm h0 hc hw0 h4
            · exact bare_3_no n wh m w he hf hz1 hz2 hm h0 hc hw0 h3 h4
        · by_cases h5 : n.kind = 5
          · exact bare_4_5 n wh m w he hf hz1 hz2 hm h0 hc hw0 h5
          · exact bare_4_no n wh m w he hf hz1 hz2 hm h0 hc hw0 h5
        · by_cases h2 : n.kind = 2
          · by_cases hq : n.frm < 64
            · exact bare_5_2y n wh m w he hf hz1 hz2 hm h0 hc hw0 h2 hq
            · exact bare_5_2n n wh m w he hf hz1 hz2 hm h0 hc hw0 h2 hq
          · by_cases h4 : n.kind = 4
            · by_cases hq : n.length ≤ 1
              · exact bare_5_4y n wh m w he hf hz1 hz2 hm h0 hc hw0 h4 hq
              · exact bare_5_4n n wh m w he hf hz1 hz2 hm h0 hc hw0 h4 hq
            · exact bare_5_n n wh m w he hf hz1 hz2 hm h0 hc hw0 h2 h4
end Go.Proofs.Ytalilifegclelaa
