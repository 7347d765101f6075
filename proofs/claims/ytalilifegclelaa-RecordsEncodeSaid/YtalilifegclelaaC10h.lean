/- The contract of records.may. (Printed by wip/src/XC10h.py.) -/
import Derived.Test.YtalilifegclelaaC10g
import Derived.RegionTactic
namespace Go.Proofs.Ytalilifegclelaa
open Go.RowKit

/-- What a kind asks. -/
def kindGood (n : RNum) (es : List Ent) (fs : List Spt) : Bool :=
  if n.kind = 1 then within n.epoch 1 1048576 && decide (es.length = 0) && bareB { n with epoch := 0 }
  else if n.kind = 2 then within n.epoch 1 1048576 && logGood es n.stream n.frm && bareB { n with epoch := 0, frm := 0 }
  else if n.kind = 3 then within n.length 0 64 && decide (es.length = 0) && bareB { n with length := 0 }
  else if n.kind = 4 then within n.epoch 0 1048576 && within n.view 0 1048576 && logGood es n.stream 0 && decide (0 ≤ n.length) && decide (n.length ≤ es.length) && bareB { n with epoch := 0, view := 0, length := 0 }
  else if n.kind = 5 then decide (n.stream = 0) && decide (es.length = 0) && feedGood fs && bareB n else false
/-- May a record be? -/
def mayR (n : RNum) (es : List Ent) (fs : List Spt) : Bool := within n.stream 0 3 && !(decide (n.kind ≠ 5) && decide (0 < fs.length)) && kindGood n es fs
theorem rec_set {w : World} {B : Nat} {n m : RNum} {ve vf : Value} {t : TypeId} (k : Nat) (v : Value) (h : w.heap[B]? = some (.cells (recCells n ve vf) t (0, 0))) (hm : (recCells n ve vf).setIfInBounds k v = recCells m ve vf) :
    (w.setCell ⟨B, k, none⟩ v).heap[B]? = some (.cells (recCells m ve vf) t (0, 0)) := by
  simp only [World.setCell, Array.getElem?_modify, h, ← hm]
  rfl
set_option maxRecDepth 100000 in
set_option maxHeartbeats 8000000 in
theorem may_bad1 {B : Nat} {w : World} (n : RNum) {ae af : Option Addr} {ce cf : Nat} {es : List Ent} {fs : List Spt} (he : EntsAt B w (.slice ae es.length ce) es) (hf : SptsAt B w (.slice af fs.length cf) fs) (_hl : es.length ≤ 1000000) (_hlf : fs.length ≤ 1000000) (h1 : within n.stream 0 3 = false) :
    Calls Try.prog 20 #[.agg #[.int .i64 n.kind, .int .i64 n.stream, .int .i64 n.epoch, .int .i64 n.view, .int .i64 n.frm, .int .i64 n.length, .slice ae es.length ce, .slice af fs.length cf]] w fun e w' => e = .returned (.bool (mayR n es fs)) ∧ Below w.heap.size w w' := by
  obtain ⟨w1, e1, b1, s1, h1⟩ := boxed w (recCells n (.slice ae es.length ce) (.slice af fs.length cf)) 25
  have E1 := Lib.hid (show w.alloc (.cells #[.int .i64 n.kind, .int .i64 n.stream, .int .i64 n.epoch, .int .i64 n.view, .int .i64 n.frm, .int .i64 n.length, .slice ae es.length ce, .slice af fs.length cf] 25) = w1 from e1)
  obtain ⟨c0, c1, c2, c3, c4, c5, c6, c7⟩ := rec_cells h1
  have HS := Lib.hid (stream_any n.stream)
  have HE := Lib.hid (he.below b1)
  have HF := Lib.hid (hf.below b1)
  have H1 := Lib.hid h1
  clear e1 h1 he hf
  have HM := Lib.hid (show mayR n es fs = false by unfold mayR; rw [h1]; rfl)
  rw [h1] at HS
  clear h1
  go_enter Try.func20, Try.ntmps20
  go_wp2_with fail
  rw [E1.out]
  refine (HS.out _).mono ?_
  rintro e w2 ⟨rfl, rfl⟩
  go_wp2
  go_ret
  exact ⟨ret_bool (by rw [HM.out]), b1⟩
set_option maxRecDepth 100000 in
set_option maxHeartbeats 8000000 in
theorem may_bad2 {B : Nat} {w : World} (n : RNum) {ae af : Option Addr} {ce cf : Nat} {es : List Ent} {fs : List Spt} (he : EntsAt B w (.slice ae es.length ce) es) (hf : SptsAt B w (.slice af fs.length cf) fs) (_hl : es.length ≤ 1000000) (_hlf : fs.length ≤ 1000000) (h1 : within n.stream 0 3 = true) (h2 : n.kind ≠ 5) (h3 : 0 < fs.length) :
    Calls Try.prog 20 #[.agg #[.int .i64 n.kind, .int .i64 n.stream, .int .i64 n.epoch, .int .i64 n.view, .int .i64 n.frm, .int .i64 n.length, .slice ae es.length ce, .slice af fs.length cf]] w fun e w' => e = .returned (.bool (mayR n es fs)) ∧ Below w.heap.size w w' := by
  obtain ⟨w1, e1, b1, s1, h1⟩ := boxed w (recCells n (.slice ae es.length ce) (.slice af fs.length cf)) 25
  have E1 := Lib.hid (show w.alloc (.cells #[.int .i64 n.kind, .int .i64 n.stream, .int .i64 n.epoch, .int .i64 n.view, .int .i64 n.frm, .int .i64 n.length, .slice ae es.length ce, .slice af fs.length cf] 25) = w1 from e1)
  obtain ⟨c0, c1, c2, c3, c4, c5, c6, c7⟩ := rec_cells h1
  have HS := Lib.hid (stream_any n.stream)
  have HE := Lib.hid (he.below b1)
  have HF := Lib.hid (hf.below b1)
  have H1 := Lib.hid h1
  clear e1 h1 he hf
  have HM := Lib.hid (show mayR n es fs = false by unfold mayR; rw [h1, decide_eq_true h2, decide_eq_true h3]; rfl)
  have d2 : (n.kind != 5) = true := by rw [bne_iff_ne]; exact h2
  rw [h1] at HS
  clear h1 h2
  go_enter Try.func20, Try.ntmps20
  go_wp2_with fail
  rw [E1.out]
  refine (HS.out _).mono ?_
  rintro e w2 ⟨rfl, rfl⟩
  go_wp2
  go_ret
  exact ⟨ret_bool (by rw [HM.out]), b1⟩
set_option maxRecDepth 100000 in
set_option maxHeartbeats 8000000 in
theorem may_k1 {B : Nat} {w : World} (n : RNum) {ae af : Option Addr} {ce cf : Nat} {es : List Ent} {fs : List Spt} (he : EntsAt B w (.slice ae es.length ce) es) (hf : SptsAt B w (.slice af fs.length cf) fs) (_hl : es.length ≤ 1000000) (_hlf : fs.length ≤ 1000000) (h1 : within n.stream 0 3 = true) (h2 : n.kind = 1) (h3 : fs.length = 0) :
    Calls Try.prog 20 #[.agg #[.int .i64 n.kind, .int .i64 n.stream, .int .i64 n.epoch, .int .i64 n.view, .int .i64 n.frm, .int .i64 n.length, .slice ae es.length ce, .slice af fs.length cf]] w fun e w' => e = .returned (.bool (mayR n es fs)) ∧ Below w.heap.size w w' := by
  obtain ⟨w1, e1, b1, s1, h1⟩ := boxed w (recCells n (.slice ae es.length ce) (.slice af fs.length cf)) 25
  have E1 := Lib.hid (show w.alloc (.cells #[.int .i64 n.kind, .int .i64 n.stream, .int .i64 n.epoch, .int .i64 n.view, .int .i64 n.frm, .int .i64 n.length, .slice ae es.length ce, .slice af fs.length cf] 25) = w1 from e1)
  obtain ⟨c0, c1, c2, c3, c4, c5, c6, c7⟩ := rec_cells h1
  have HS := Lib.hid (stream_any n.stream)
  have HE := Lib.hid (he.below b1)
  have HF := Lib.hid (hf.below b1)
  have H1 := Lib.hid h1
  clear e1 h1 he hf
  have HM := Lib.hid (show mayR n es fs = kindGood n es fs by unfold mayR; rw [h1, h2, h3]; simp)
  have HK := Lib.hid (show kindGood n es fs = (within n.epoch 1 1048576 && decide (es.length = 0) && bareB { n with epoch := 0 }) by unfold kindGood;  rw [if_pos h2])
  have d2 : (n.kind != 5) = true := by rw [h2]; rfl
  have k1 : (n.kind == 1) = true := by rw [h2]; rfl
  have k2 : (n.kind == 2) = false := by rw [h2]; rfl
  have k3 : (n.kind == 3) = false := by rw [h2]; rfl
  have k4 : (n.kind == 4) = false := by rw [h2]; rfl
  have k5 : (n.kind == 5) = false := by rw [h2]; rfl
  have d3 : decide ((0 : Int) < (fs.length : Int)) = false := by rw [h3]; rfl
  have d3b : decide (0 < fs.length) = false := by rw [h3]; rfl
  rw [h1] at HS
  have H2 := Lib.hid h2
  clear h1 h2
  have H3 := Lib.hid h3
  clear h3
  cases hx0 : within n.epoch 1 1048576 with
  | false =>
    have X0 := Lib.hid hx0
    clear hx0
    obtain ⟨w2, e2, b2, s2, h2'⟩ := boxed w1 (recCells n (.slice ae es.length ce) (.slice af fs.length cf)) 25
    have E2 := Lib.hid (show (w1.alloc (.cells #[.int .i64 n.kind, .int .i64 n.stream, .int .i64 n.epoch, .int .i64 n.view, .int .i64 n.frm, .int .i64 n.length, .slice ae es.length ce, .slice af fs.length cf] 25)).drew = w2.drew by rw [← e2]; rfl)
    rw [s1] at h2'
    have o1 : w2.drew.heap[w.heap.size]? = some (.cells (recCells n (.slice ae es.length ce) (.slice af fs.length cf)) 25 (0, 0)) := (b2.block _ (by omega)).trans H1.out
    have o2 : w2.drew.heap[w.heap.size + 1]? = some (.cells (recCells n (.slice ae es.length ce) (.slice af fs.length cf)) 25 (0, 0)) := h2'
    have B2 : Below w.heap.size w w2.drew := (b1.trans (b2.mono b1.size)).drew
    have S2 : w2.drew.heap.size = w.heap.size + 2 := by show w2.heap.size = _; omega
    have B13 : Below w1.heap.size w1 w2.drew := b2.drew
    clear e2 h2'
    generalize w2.drew = w3 at *
    obtain ⟨p0, p1, p2, p3, p4, p5, p6, p7⟩ := rec_cells o1
    obtain ⟨q0, q1, q2, q3, q4, q5, q6, q7⟩ := rec_cells o2
    have f3 : ∀ j, w3.frozen? ⟨w.heap.size + 1, j, none⟩ = false := fun j => by simp [World.frozen?, o2]
    have f3_0 := f3 2
    clear f3
    obtain ⟨w4, e4, o4, o5, B4, B14, S4⟩ : ∃ w4, (w3.setCell ⟨w.heap.size + 1, 2, none⟩ (.int .i64 0)) = w4 ∧ w4.heap[w.heap.size + 1]? = some (.cells (recCells { n with epoch := 0 } (.slice ae es.length ce) (.slice af fs.length cf)) 25 (0, 0)) ∧ w4.heap[w.heap.size]? = some (.cells (recCells n (.slice ae es.length ce) (.slice af fs.length cf)) 25 (0, 0)) ∧ Below w.heap.size w w4 ∧ Below w1.heap.size w1 w4 ∧ w4.heap.size = w.heap.size + 2 :=
      ⟨_, rfl, (rec_set (m := { n with epoch := 0 }) 2 (.int .i64 0) o2 rfl), ((Below.heap_setCell _ _ _ _ (by show w.heap.size ≠ w.heap.size + 1; omega)).trans o1), ((B2).setCell (p := ⟨w.heap.size + 1, 2, none⟩) (by show w.heap.size ≤ w.heap.size + 1; omega) (.int .i64 0)), ((B13).setCell (p := ⟨w.heap.size + 1, 2, none⟩) (by show w1.heap.size ≤ w.heap.size + 1; omega) (.int .i64 0)), by simp [World.setCell, S2]⟩
    have E4 := Lib.hid e4
    have HE4 := Lib.hid (HE.out.below B14)
    have HF4 := Lib.hid (HF.out.below B14)
    clear e4 o1 o2
    go_enter Try.func20, Try.ntmps20
    go_wp2_with fail
    rw [E1.out]
    refine (HS.out _).mono ?_
    rintro e w2 ⟨rfl, rfl⟩
    go_wp2_with fail
    go_region
    rw [E2.out]
    clear c0 c1 c2 c3 c4 c5 c6 c7
    go_wp2_with fail
    rw [E4.out]
    clear p0 p1 p2 p3 p4 p5 p6 p7 q0 q1 q2 q3 q4 q5 q6 q7 f3_0
    obtain ⟨p0, p1, p2, p3, p4, p5, p6, p7⟩ := rec_cells o5
    obtain ⟨q0, q1, q2, q3, q4, q5, q6, q7⟩ := rec_cells o4
    refine (epoch_any n.epoch 1 _).mono ?_
    rw [X0.out]
    rintro e w5 ⟨rfl, rfl⟩
    go_wp2
    go_ret
    exact ⟨ret_bool (by rw [HM.out, HK.out, X0.out]; simp), B4⟩
  | true =>
    cases hx1 : decide (es.length = 0) with
    | false =>
      have X0 := Lib.hid hx0
      clear hx0
      have X1 := Lib.hid hx1
      have z0 : ((es.length : Int) == 0) = false := by rw [beq_eq_false_iff_ne]; have := of_decide_eq_false hx1; omega
      clear hx1
      obtain ⟨w2, e2, b2, s2, h2'⟩ := boxed w1 (recCells n (.slice ae es.length ce) (.slice af fs.length cf)) 25
      have E2 := Lib.hid (show (w1.alloc (.cells #[.int .i64 n.kind, .int .i64 n.stream, .int .i64 n.epoch, .int .i64 n.view, .int .i64 n.frm, .int .i64 n.length, .slice ae es.length ce, .slice af fs.length cf] 25)).drew = w2.drew by rw [← e2]; rfl)
      rw [s1] at h2'
      have o1 : w2.drew.heap[w.heap.size]? = some (.cells (recCells n (.slice ae es.length ce) (.slice af fs.length cf)) 25 (0, 0)) := (b2.block _ (by omega)).trans H1.out
      have o2 : w2.drew.heap[w.heap.size + 1]? = some (.cells (recCells n (.slice ae es.length ce) (.slice af fs.length cf)) 25 (0, 0)) := h2'
      have B2 : Below w.heap.size w w2.drew := (b1.trans (b2.mono b1.size)).drew
      have S2 : w2.drew.heap.size = w.heap.size + 2 := by show w2.heap.size = _; omega
      have B13 : Below w1.heap.size w1 w2.drew := b2.drew
      clear e2 h2'
      generalize w2.drew = w3 at *
      obtain ⟨p0, p1, p2, p3, p4, p5, p6, p7⟩ := rec_cells o1
      obtain ⟨q0, q1, q2, q3, q4, q5, q6, q7⟩ := rec_cells o2
      have f3 : ∀ j, w3.frozen? ⟨w.heap.size + 1, j, none⟩ = false := fun j => by simp [World.frozen?, o2]
      have f3_0 := f3 2
      clear f3
      obtain ⟨w4, e4, o4, o5, B4, B14, S4⟩ : ∃ w4, (w3.setCell ⟨w.heap.size + 1, 2, none⟩ (.int .i64 0)) = w4 ∧ w4.heap[w.heap.size + 1]? = some (.cells (recCells { n with epoch := 0 } (.slice ae es.length ce) (.slice af fs.length cf)) 25 (0, 0)) ∧ w4.heap[w.heap.size]? = some (.cells (recCells n (.slice ae es.length ce) (.slice af fs.length cf)) 25 (0, 0)) ∧ Below w.heap.size w w4 ∧ Below w1.heap.size w1 w4 ∧ w4.heap.size = w.heap.size + 2 :=
        ⟨_, rfl, (rec_set (m := { n with epoch := 0 }) 2 (.int .i64 0) o2 rfl), ((Below.heap_setCell _ _ _ _ (by show w.heap.size ≠ w.heap.size + 1; omega)).trans o1), ((B2).setCell (p := ⟨w.heap.size + 1, 2, none⟩) (by show w.heap.size ≤ w.heap.size + 1; omega) (.int .i64 0)), ((B13).setCell (p := ⟨w.heap.size + 1, 2, none⟩) (by show w1.heap.size ≤ w.heap.size + 1; omega) (.int .i64 0)), by simp [World.setCell, S2]⟩
      have E4 := Lib.hid e4
      have HE4 := Lib.hid (HE.out.below B14)
      have HF4 := Lib.hid (HF.out.below B14)
      clear e4 o1 o2
      go_enter Try.func20, Try.ntmps20
      go_wp2_with fail
      rw [E1.out]
      refine (HS.out _).mono ?_
      rintro e w2 ⟨rfl, rfl⟩
      go_wp2_with fail
      go_region
      rw [E2.out]
      clear c0 c1 c2 c3 c4 c5 c6 c7
      go_wp2_with fail
      rw [E4.out]
      clear p0 p1 p2 p3 p4 p5 p6 p7 q0 q1 q2 q3 q4 q5 q6 q7 f3_0
      obtain ⟨p0, p1, p2, p3, p4, p5, p6, p7⟩ := rec_cells o5
      obtain ⟨q0, q1, q2, q3, q4, q5, q6, q7⟩ := rec_cells o4
      refine (epoch_any n.epoch 1 _).mono ?_
      rw [X0.out]
      rintro e w5 ⟨rfl, rfl⟩
      go_wp2
      go_ret
      exact ⟨ret_bool (by rw [HM.out, HK.out, X0.out, X1.out]; simp), B4⟩
    | true =>
      have X0 := Lib.hid hx0
      clear hx0
      have X1 := Lib.hid hx1
      have z0 : ((es.length : Int) == 0) = true := by rw [of_decide_eq_true hx1]; rfl
      clear hx1
      obtain ⟨w2, e2, b2, s2, h2'⟩ := boxed w1 (recCells n (.slice ae es.length ce) (.slice af fs.length cf)) 25
      have E2 := Lib.hid (show (w1.alloc (.cells #[.int .i64 n.kind, .int .i64 n.stream, .int .i64 n.epoch, .int .i64 n.view, .int .i64 n.frm, .int .i64 n.length, .slice ae es.length ce, .slice af fs.length cf] 25)).drew = w2.drew by rw [← e2]; rfl)
      rw [s1] at h2'
      have o1 : w2.drew.heap[w.heap.size]? = some (.cells (recCells n (.slice ae es.length ce) (.slice af fs.length cf)) 25 (0, 0)) := (b2.block _ (by omega)).trans H1.out
      have o2 : w2.drew.heap[w.heap.size + 1]? = some (.cells (recCells n (.slice ae es.length ce) (.slice af fs.length cf)) 25 (0, 0)) := h2'
      have B2 : Below w.heap.size w w2.drew := (b1.trans (b2.mono b1.size)).drew
      have S2 : w2.drew.heap.size = w.heap.size + 2 := by show w2.heap.size = _; omega
      have B13 : Below w1.heap.size w1 w2.drew := b2.drew
      clear e2 h2'
      generalize w2.drew = w3 at *
      obtain ⟨p0, p1, p2, p3, p4, p5, p6, p7⟩ := rec_cells o1
      obtain ⟨q0, q1, q2, q3, q4, q5, q6, q7⟩ := rec_cells o2
      have f3 : ∀ j, w3.frozen? ⟨w.heap.size + 1, j, none⟩ = false := fun j => by simp [World.frozen?, o2]
      have f3_0 := f3 2
      clear f3
      obtain ⟨w4, e4, o4, o5, B4, B14, S4⟩ : ∃ w4, (w3.setCell ⟨w.heap.size + 1, 2, none⟩ (.int .i64 0)) = w4 ∧ w4.heap[w.heap.size + 1]? = some (.cells (recCells { n with epoch := 0 } (.slice ae es.length ce) (.slice af fs.length cf)) 25 (0, 0)) ∧ w4.heap[w.heap.size]? = some (.cells (recCells n (.slice ae es.length ce) (.slice af fs.length cf)) 25 (0, 0)) ∧ Below w.heap.size w w4 ∧ Below w1.heap.size w1 w4 ∧ w4.heap.size = w.heap.size + 2 :=
        ⟨_, rfl, (rec_set (m := { n with epoch := 0 }) 2 (.int .i64 0) o2 rfl), ((Below.heap_setCell _ _ _ _ (by show w.heap.size ≠ w.heap.size + 1; omega)).trans o1), ((B2).setCell (p := ⟨w.heap.size + 1, 2, none⟩) (by show w.heap.size ≤ w.heap.size + 1; omega) (.int .i64 0)), ((B13).setCell (p := ⟨w.heap.size + 1, 2, none⟩) (by show w1.heap.size ≤ w.heap.size + 1; omega) (.int .i64 0)), by simp [World.setCell, S2]⟩
      have E4 := Lib.hid e4
      have HE4 := Lib.hid (HE.out.below B14)
      have HF4 := Lib.hid (HF.out.below B14)
      clear e4 o1 o2
      go_enter Try.func20, Try.ntmps20
      go_wp2_with fail
      rw [E1.out]
      refine (HS.out _).mono ?_
      rintro e w2 ⟨rfl, rfl⟩
      go_wp2_with fail
      go_region
      rw [E2.out]
      clear c0 c1 c2 c3 c4 c5 c6 c7
      go_wp2_with fail
      rw [E4.out]
      clear p0 p1 p2 p3 p4 p5 p6 p7 q0 q1 q2 q3 q4 q5 q6 q7 f3_0
      obtain ⟨p0, p1, p2, p3, p4, p5, p6, p7⟩ := rec_cells o5
      obtain ⟨q0, q1, q2, q3, q4, q5, q6, q7⟩ := rec_cells o4
      refine (epoch_any n.epoch 1 _).mono ?_
      rw [X0.out]
      rintro e w5 ⟨rfl, rfl⟩
      go_wp2_with fail
      refine (bare_any { n with epoch := 0 } ae af es.length ce fs.length cf _).mono ?_
      rintro e w6 ⟨rfl, b6⟩
      go_wp2
      go_ret
      exact ⟨ret_bool (by rw [HM.out, HK.out, X0.out, X1.out]; simp), B4.trans (b6.mono B4.size)⟩
set_option maxRecDepth 100000 in
set_option maxHeartbeats 8000000 in
theorem may_k2 {B : Nat} {w : World} (n : RNum) {ae af : Option Addr} {ce cf : Nat} {es : List Ent} {fs : List Spt} (he : EntsAt B w (.slice ae es.length ce) es) (hf : SptsAt B w (.slice af fs.length cf) fs) (_hl : es.length ≤ 1000000) (_hlf : fs.length ≤ 1000000) (h1 : within n.stream 0 3 = true) (h2 : n.kind = 2) (h3 : fs.length = 0) :
    Calls Try.prog 20 #[.agg #[.int .i64 n.kind, .int .i64 n.stream, .int .i64 n.epoch, .int .i64 n.view, .int .i64 n.frm, .int .i64 n.length, .slice ae es.length ce, .slice af fs.length cf]] w fun e w' => e = .returned (.bool (mayR n es fs)) ∧ Below w.heap.size w w' := by
  obtain ⟨w1, e1, b1, s1, h1⟩ := boxed w (recCells n (.slice ae es.length ce) (.slice af fs.length cf)) 25
  have E1 := Lib.hid (show w.alloc (.cells #[.int .i64 n.kind, .int .i64 n.stream, .int .i64 n.epoch, .int .i64 n.view, .int .i64 n.frm, .int .i64 n.length, .slice ae es.length ce, .slice af fs.length cf] 25) = w1 from e1)
  obtain ⟨c0, c1, c2, c3, c4, c5, c6, c7⟩ := rec_cells h1
  have HS := Lib.hid (stream_any n.stream)
  have HE := Lib.hid (he.below b1)
  have HF := Lib.hid (hf.below b1)
  have H1 := Lib.hid h1
  clear e1 h1 he hf
  have HM := Lib.hid (show mayR n es fs = kindGood n es fs by unfold mayR; rw [h1, h2, h3]; simp)
  have HK := Lib.hid (show kindGood n es fs = (within n.epoch 1 1048576 && logGood es n.stream n.frm && bareB { n with epoch := 0, frm := 0 }) by unfold kindGood; rw [if_neg (by rw [h2]; decide)]; rw [if_pos h2])
  have d2 : (n.kind != 5) = true := by rw [h2]; rfl
  have k1 : (n.kind == 1) = false := by rw [h2]; rfl
  have k2 : (n.kind == 2) = true := by rw [h2]; rfl
  have k3 : (n.kind == 3) = false := by rw [h2]; rfl
  have k4 : (n.kind == 4) = false := by rw [h2]; rfl
  have k5 : (n.kind == 5) = false := by rw [h2]; rfl
  have d3 : decide ((0 : Int) < (fs.length : Int)) = false := by rw [h3]; rfl
  have d3b : decide (0 < fs.length) = false := by rw [h3]; rfl
  rw [h1] at HS
  have H2 := Lib.hid h2
  clear h1 h2
  have H3 := Lib.hid h3
  clear h3
  cases hx0 : within n.epoch 1 1048576 with
  | false =>
    have X0 := Lib.hid hx0
    clear hx0
    obtain ⟨w2, e2, b2, s2, h2'⟩ := boxed w1 (recCells n (.slice ae es.length ce) (.slice af fs.length cf)) 25
    have E2 := Lib.hid (show (w1.alloc (.cells #[.int .i64 n.kind, .int .i64 n.stream, .int .i64 n.epoch, .int .i64 n.view, .int .i64 n.frm, .int .i64 n.length, .slice ae es.length ce, .slice af fs.length cf] 25)).drew = w2.drew by rw [← e2]; rfl)
    rw [s1] at h2'
    have o1 : w2.drew.heap[w.heap.size]? = some (.cells (recCells n (.slice ae es.length ce) (.slice af fs.length cf)) 25 (0, 0)) := (b2.block _ (by omega)).trans H1.out
    have o2 : w2.drew.heap[w.heap.size + 1]? = some (.cells (recCells n (.slice ae es.length ce) (.slice af fs.length cf)) 25 (0, 0)) := h2'
    have B2 : Below w.heap.size w w2.drew := (b1.trans (b2.mono b1.size)).drew
    have S2 : w2.drew.heap.size = w.heap.size + 2 := by show w2.heap.size = _; omega
    have B13 : Below w1.heap.size w1 w2.drew := b2.drew
    clear e2 h2'
    generalize w2.drew = w3 at *
    obtain ⟨p0, p1, p2, p3, p4, p5, p6, p7⟩ := rec_cells o1
    obtain ⟨q0, q1, q2, q3, q4, q5, q6, q7⟩ := rec_cells o2
    have f3 : ∀ j, w3.frozen? ⟨w.heap.size + 1, j, none⟩ = false := fun j => by simp [World.frozen?, o2]
    have f3_0 := f3 2
    have f3_1 := f3 4
    clear f3
    obtain ⟨w4, e4, o4, o5, B4, B14, S4⟩ : ∃ w4, ((w3.setCell ⟨w.heap.size + 1, 2, none⟩ (.int .i64 0)).setCell ⟨w.heap.size + 1, 4, none⟩ (.int .i64 0)) = w4 ∧ w4.heap[w.heap.size + 1]? = some (.cells (recCells { n with epoch := 0, frm := 0 } (.slice ae es.length ce) (.slice af fs.length cf)) 25 (0, 0)) ∧ w4.heap[w.heap.size]? = some (.cells (recCells n (.slice ae es.length ce) (.slice af fs.length cf)) 25 (0, 0)) ∧ Below w.heap.size w w4 ∧ Below w1.heap.size w1 w4 ∧ w4.heap.size = w.heap.size + 2 :=
      ⟨_, rfl, (rec_set (m := { n with epoch := 0, frm := 0 }) 4 (.int .i64 0) (rec_set (m := { n with epoch := 0 }) 2 (.int .i64 0) o2 rfl) rfl), ((Below.heap_setCell _ _ _ _ (by show w.heap.size ≠ w.heap.size + 1; omega)).trans ((Below.heap_setCell _ _ _ _ (by show w.heap.size ≠ w.heap.size + 1; omega)).trans o1)), (((B2).setCell (p := ⟨w.heap.size + 1, 2, none⟩) (by show w.heap.size ≤ w.heap.size + 1; omega) (.int .i64 0)).setCell (p := ⟨w.heap.size + 1, 4, none⟩) (by show w.heap.size ≤ w.heap.size + 1; omega) (.int .i64 0)), (((B13).setCell (p := ⟨w.heap.size + 1, 2, none⟩) (by show w1.heap.size ≤ w.heap.size + 1; omega) (.int .i64 0)).setCell (p := ⟨w.heap.size + 1, 4, none⟩) (by show w1.heap.size ≤ w.heap.size + 1; omega) (.int .i64 0)), by simp [World.setCell, S2]⟩
    have E4 := Lib.hid e4
    have HE4 := Lib.hid (HE.out.below B14)
    have HF4 := Lib.hid (HF.out.below B14)
    clear e4 o1 o2
    go_enter Try.func20, Try.ntmps20
    go_wp2_with fail
    rw [E1.out]
    refine (HS.out _).mono ?_
    rintro e w2 ⟨rfl, rfl⟩
    go_wp2_with fail
    go_region
    rw [E2.out]
    clear c0 c1 c2 c3 c4 c5 c6 c7
    go_wp2_with fail
    rw [E4.out]
    clear p0 p1 p2 p3 p4 p5 p6 p7 q0 q1 q2 q3 q4 q5 q6 q7 f3_0 f3_1
    obtain ⟨p0, p1, p2, p3, p4, p5, p6, p7⟩ := rec_cells o5
    obtain ⟨q0, q1, q2, q3, q4, q5, q6, q7⟩ := rec_cells o4
    refine (epoch_any n.epoch 1 _).mono ?_
    rw [X0.out]
    rintro e w5 ⟨rfl, rfl⟩
    go_wp2
    go_ret
    exact ⟨ret_bool (by rw [HM.out, HK.out, X0.out]; simp), B4⟩
  | true =>
    cases hx1 : logGood es n.stream n.frm with
    | false =>
      have X0 := Lib.hid hx0
      clear hx0
      have X1 := Lib.hid hx1
      clear hx1
      obtain ⟨w2, e2, b2, s2, h2'⟩ := boxed w1 (recCells n (.slice ae es.length ce) (.slice af fs.length cf)) 25
      have E2 := Lib.hid (show (w1.alloc (.cells #[.int .i64 n.kind, .int .i64 n.stream, .int .i64 n.epoch, .int .i64 n.view, .int .i64 n.frm, .int .i64 n.length, .slice ae es.length ce, .slice af fs.length cf] 25)).drew = w2.drew by rw [← e2]; rfl)
      rw [s1] at h2'
      have o1 : w2.drew.heap[w.heap.size]? = some (.cells (recCells n (.slice ae es.length ce) (.slice af fs.length cf)) 25 (0, 0)) := (b2.block _ (by omega)).trans H1.out
      have o2 : w2.drew.heap[w.heap.size + 1]? = some (.cells (recCells n (.slice ae es.length ce) (.slice af fs.length cf)) 25 (0, 0)) := h2'
      have B2 : Below w.heap.size w w2.drew := (b1.trans (b2.mono b1.size)).drew
      have S2 : w2.drew.heap.size = w.heap.size + 2 := by show w2.heap.size = _; omega
      have B13 : Below w1.heap.size w1 w2.drew := b2.drew
      clear e2 h2'
      generalize w2.drew = w3 at *
      obtain ⟨p0, p1, p2, p3, p4, p5, p6, p7⟩ := rec_cells o1
      obtain ⟨q0, q1, q2, q3, q4, q5, q6, q7⟩ := rec_cells o2
      have f3 : ∀ j, w3.frozen? ⟨w.heap.size + 1, j, none⟩ = false := fun j => by simp [World.frozen?, o2]
      have f3_0 := f3 2
      have f3_1 := f3 4
      clear f3
      obtain ⟨w4, e4, o4, o5, B4, B14, S4⟩ : ∃ w4, ((w3.setCell ⟨w.heap.size + 1, 2, none⟩ (.int .i64 0)).setCell ⟨w.heap.size + 1, 4, none⟩ (.int .i64 0)) = w4 ∧ w4.heap[w.heap.size + 1]? = some (.cells (recCells { n with epoch := 0, frm := 0 } (.slice ae es.length ce) (.slice af fs.length cf)) 25 (0, 0)) ∧ w4.heap[w.heap.size]? = some (.cells (recCells n (.slice ae es.length ce) (.slice af fs.length cf)) 25 (0, 0)) ∧ Below w.heap.size w w4 ∧ Below w1.heap.size w1 w4 ∧ w4.heap.size = w.heap.size + 2 :=
        ⟨_, rfl, (rec_set (m := { n with epoch := 0, frm := 0 }) 4 (.int .i64 0) (rec_set (m := { n with epoch := 0 }) 2 (.int .i64 0) o2 rfl) rfl), ((Below.heap_setCell _ _ _ _ (by show w.heap.size ≠ w.heap.size + 1; omega)).trans ((Below.heap_setCell _ _ _ _ (by show w.heap.size ≠ w.heap.size + 1; omega)).trans o1)), (((B2).setCell (p := ⟨w.heap.size + 1, 2, none⟩) (by show w.heap.size ≤ w.heap.size + 1; omega) (.int .i64 0)).setCell (p := ⟨w.heap.size + 1, 4, none⟩) (by show w.heap.size ≤ w.heap.size + 1; omega) (.int .i64 0)), (((B13).setCell (p := ⟨w.heap.size + 1, 2, none⟩) (by show w1.heap.size ≤ w.heap.size + 1; omega) (.int .i64 0)).setCell (p := ⟨w.heap.size + 1, 4, none⟩) (by show w1.heap.size ≤ w.heap.size + 1; omega) (.int .i64 0)), by simp [World.setCell, S2]⟩
      have E4 := Lib.hid e4
      have HE4 := Lib.hid (HE.out.below B14)
      have HF4 := Lib.hid (HF.out.below B14)
      clear e4 o1 o2
      go_enter Try.func20, Try.ntmps20
      go_wp2_with fail
      rw [E1.out]
      refine (HS.out _).mono ?_
      rintro e w2 ⟨rfl, rfl⟩
      go_wp2_with fail
      go_region
      rw [E2.out]
      clear c0 c1 c2 c3 c4 c5 c6 c7
      go_wp2_with fail
      rw [E4.out]
      clear p0 p1 p2 p3 p4 p5 p6 p7 q0 q1 q2 q3 q4 q5 q6 q7 f3_0 f3_1
      obtain ⟨p0, p1, p2, p3, p4, p5, p6, p7⟩ := rec_cells o5
      obtain ⟨q0, q1, q2, q3, q4, q5, q6, q7⟩ := rec_cells o4
      refine (epoch_any n.epoch 1 _).mono ?_
      rw [X0.out]
      rintro e w5 ⟨rfl, rfl⟩
      go_wp2_with fail
      refine (log_any n.stream n.frm HE4.out _hl).mono ?_
      rw [X1.out]
      rintro e w5 ⟨rfl, b5⟩
      clear p0 p1 p2 p3 p4 p5 p6 p7 q0 q1 q2 q3 q4 q5 q6 q7
      have r5 := (b5.block _ (by omega)).trans o5
      have r4 := (b5.block _ (by omega)).trans o4
      obtain ⟨p0, p1, p2, p3, p4, p5, p6, p7⟩ := rec_cells r5
      obtain ⟨q0, q1, q2, q3, q4, q5, q6, q7⟩ := rec_cells r4
      have B5 := B4.trans (b5.mono (by omega))
      go_wp2
      go_ret
      exact ⟨ret_bool (by rw [HM.out, HK.out, X0.out, X1.out]; simp), B5⟩
    | true =>
      have X0 := Lib.hid hx0
      clear hx0
      have X1 := Lib.hid hx1
      clear hx1
      obtain ⟨w2, e2, b2, s2, h2'⟩ := boxed w1 (recCells n (.slice ae es.length ce) (.slice af fs.length cf)) 25
      have E2 := Lib.hid (show (w1.alloc (.cells #[.int .i64 n.kind, .int .i64 n.stream, .int .i64 n.epoch, .int .i64 n.view, .int .i64 n.frm, .int .i64 n.length, .slice ae es.length ce, .slice af fs.length cf] 25)).drew = w2.drew by rw [← e2]; rfl)
      rw [s1] at h2'
      have o1 : w2.drew.heap[w.heap.size]? = some (.cells (recCells n (.slice ae es.length ce) (.slice af fs.length cf)) 25 (0, 0)) := (b2.block _ (by omega)).trans H1.out
      have o2 : w2.drew.heap[w.heap.size + 1]? = some (.cells (recCells n (.slice ae es.length ce) (.slice af fs.length cf)) 25 (0, 0)) := h2'
      have B2 : Below w.heap.size w w2.drew := (b1.trans (b2.mono b1.size)).drew
      have S2 : w2.drew.heap.size = w.heap.size + 2 := by show w2.heap.size = _; omega
      have B13 : Below w1.heap.size w1 w2.drew := b2.drew
      clear e2 h2'
      generalize w2.drew = w3 at *
      obtain ⟨p0, p1, p2, p3, p4, p5, p6, p7⟩ := rec_cells o1
      obtain ⟨q0, q1, q2, q3, q4, q5, q6, q7⟩ := rec_cells o2
      have f3 : ∀ j, w3.frozen? ⟨w.heap.size + 1, j, none⟩ = false := fun j => by simp [World.frozen?, o2]
      have f3_0 := f3 2
      have f3_1 := f3 4
      clear f3
      obtain ⟨w4, e4, o4, o5, B4, B14, S4⟩ : ∃ w4, ((w3.setCell ⟨w.heap.size + 1, 2, none⟩ (.int .i64 0)).setCell ⟨w.heap.size + 1, 4, none⟩ (.int .i64 0)) = w4 ∧ w4.heap[w.heap.size + 1]? = some (.cells (recCells { n with epoch := 0, frm := 0 } (.slice ae es.length ce) (.slice af fs.length cf)) 25 (0, 0)) ∧ w4.heap[w.heap.size]? = some (.cells (recCells n (.slice ae es.length ce) (.slice af fs.length cf)) 25 (0, 0)) ∧ Below w.heap.size w w4 ∧ Below w1.heap.size w1 w4 ∧ w4.heap.size = w.heap.size + 2 :=
        ⟨_, rfl, (rec_set (m := { n with epoch := 0, frm := 0 }) 4 (.int .i64 0) (rec_set (m := { n with epoch := 0 }) 2 (.int .i64 0) o2 rfl) rfl), ((Below.heap_setCell _ _ _ _ (by show w.heap.size ≠ w.heap.size + 1; omega)).trans ((Below.heap_setCell _ _ _ _ (by show w.heap.size ≠ w.heap.size + 1; omega)).trans o1)), (((B2).setCell (p := ⟨w.heap.size + 1, 2, none⟩) (by show w.heap.size ≤ w.heap.size + 1; omega) (.int .i64 0)).setCell (p := ⟨w.heap.size + 1, 4, none⟩) (by show w.heap.size ≤ w.heap.size + 1; omega) (.int .i64 0)), (((B13).setCell (p := ⟨w.heap.size + 1, 2, none⟩) (by show w1.heap.size ≤ w.heap.size + 1; omega) (.int .i64 0)).setCell (p := ⟨w.heap.size + 1, 4, none⟩) (by show w1.heap.size ≤ w.heap.size + 1; omega) (.int .i64 0)), by simp [World.setCell, S2]⟩
      have E4 := Lib.hid e4
      have HE4 := Lib.hid (HE.out.below B14)
      have HF4 := Lib.hid (HF.out.below B14)
      clear e4 o1 o2
      go_enter Try.func20, Try.ntmps20
      go_wp2_with fail
      rw [E1.out]
      refine (HS.out _).mono ?_
      rintro e w2 ⟨rfl, rfl⟩
      go_wp2_with fail
      go_region
      rw [E2.out]
      clear c0 c1 c2 c3 c4 c5 c6 c7
      go_wp2_with fail
      rw [E4.out]
      clear p0 p1 p2 p3 p4 p5 p6 p7 q0 q1 q2 q3 q4 q5 q6 q7 f3_0 f3_1
      obtain ⟨p0, p1, p2, p3, p4, p5, p6, p7⟩ := rec_cells o5
      obtain ⟨q0, q1, q2, q3, q4, q5, q6, q7⟩ := rec_cells o4
      refine (epoch_any n.epoch 1 _).mono ?_
      rw [X0.out]
      rintro e w5 ⟨rfl, rfl⟩
      go_wp2_with fail
      refine (log_any n.stream n.frm HE4.out _hl).mono ?_
      rw [X1.out]
      rintro e w5 ⟨rfl, b5⟩
      clear p0 p1 p2 p3 p4 p5 p6 p7 q0 q1 q2 q3 q4 q5 q6 q7
      have r5 := (b5.block _ (by omega)).trans o5
      have r4 := (b5.block _ (by omega)).trans o4
      obtain ⟨p0, p1, p2, p3, p4, p5, p6, p7⟩ := rec_cells r5
      obtain ⟨q0, q1, q2, q3, q4, q5, q6, q7⟩ := rec_cells r4
      have B5 := B4.trans (b5.mono (by omega))
      go_wp2_with fail
      refine (bare_any { n with epoch := 0, frm := 0 } ae af es.length ce fs.length cf _).mono ?_
      rintro e w6 ⟨rfl, b6⟩
      go_wp2
      go_ret
      exact ⟨ret_bool (by rw [HM.out, HK.out, X0.out, X1.out]; simp), B5.trans (b6.mono B5.size)⟩
set_option maxRecDepth 100000 in
set_option maxHeartbeats 8000000 in
theorem may_k3 {B : Nat} {w : World} (n : RNum) {ae af : Option Addr} {ce cf : Nat} {es : List Ent} {fs : List Spt} (he : EntsAt B w (.slice ae es.length ce) es) (hf : SptsAt B w (.slice af fs.length cf) fs) (_hl : es.length ≤ 1000000) (_hlf : fs.length ≤ 1000000) (h1 : within n.stream 0 3 = true) (h2 : n.kind = 3) (h3 : fs.length = 0) :
    Calls Try.prog 20 #[.agg #[.int .i64 n.kind, .int .i64 n.stream, .int .i64 n.epoch, .int .i64 n.view, .int .i64 n.frm, .int .i64 n.length, .slice ae es.length ce, .slice af fs.length cf]] w fun e w' => e = .returned (.bool (mayR n es fs)) ∧ Below w.heap.size w w' := by
  obtain ⟨w1, e1, b1, s1, h1⟩ := boxed w (recCells n (.slice ae es.length ce) (.slice af fs.length cf)) 25
  have E1 := Lib.hid (show w.alloc (.cells #[.int .i64 n.kind, .int .i64 n.stream, .int .i64 n.epoch, .int .i64 n.view, .int .i64 n.frm, .int .i64 n.length, .slice ae es.length ce, .slice af fs.length cf] 25) = w1 from e1)
  obtain ⟨c0, c1, c2, c3, c4, c5, c6, c7⟩ := rec_cells h1
  have HS := Lib.hid (stream_any n.stream)
  have HE := Lib.hid (he.below b1)
  have HF := Lib.hid (hf.below b1)
  have H1 := Lib.hid h1
  clear e1 h1 he hf
  have HM := Lib.hid (show mayR n es fs = kindGood n es fs by unfold mayR; rw [h1, h2, h3]; simp)
  have HK := Lib.hid (show kindGood n es fs = (within n.length 0 64 && decide (es.length = 0) && bareB { n with length := 0 }) by unfold kindGood; rw [if_neg (by rw [h2]; decide)]; rw [if_neg (by rw [h2]; decide)]; rw [if_pos h2])
  have d2 : (n.kind != 5) = true := by rw [h2]; rfl
  have k1 : (n.kind == 1) = false := by rw [h2]; rfl
  have k2 : (n.kind == 2) = false := by rw [h2]; rfl
  have k3 : (n.kind == 3) = true := by rw [h2]; rfl
  have k4 : (n.kind == 4) = false := by rw [h2]; rfl
  have k5 : (n.kind == 5) = false := by rw [h2]; rfl
  have d3 : decide ((0 : Int) < (fs.length : Int)) = false := by rw [h3]; rfl
  have d3b : decide (0 < fs.length) = false := by rw [h3]; rfl
  rw [h1] at HS
  have H2 := Lib.hid h2
  clear h1 h2
  have H3 := Lib.hid h3
  clear h3
  cases hx0 : within n.length 0 64 with
  | false =>
    have X0 := Lib.hid hx0
    clear hx0
    obtain ⟨w2, e2, b2, s2, h2'⟩ := boxed w1 (recCells n (.slice ae es.length ce) (.slice af fs.length cf)) 25
    have E2 := Lib.hid (show (w1.alloc (.cells #[.int .i64 n.kind, .int .i64 n.stream, .int .i64 n.epoch, .int .i64 n.view, .int .i64 n.frm, .int .i64 n.length, .slice ae es.length ce, .slice af fs.length cf] 25)).drew = w2.drew by rw [← e2]; rfl)
    rw [s1] at h2'
    have o1 : w2.drew.heap[w.heap.size]? = some (.cells (recCells n (.slice ae es.length ce) (.slice af fs.length cf)) 25 (0, 0)) := (b2.block _ (by omega)).trans H1.out
    have o2 : w2.drew.heap[w.heap.size + 1]? = some (.cells (recCells n (.slice ae es.length ce) (.slice af fs.length cf)) 25 (0, 0)) := h2'
    have B2 : Below w.heap.size w w2.drew := (b1.trans (b2.mono b1.size)).drew
    have S2 : w2.drew.heap.size = w.heap.size + 2 := by show w2.heap.size = _; omega
    have B13 : Below w1.heap.size w1 w2.drew := b2.drew
    clear e2 h2'
    generalize w2.drew = w3 at *
    obtain ⟨p0, p1, p2, p3, p4, p5, p6, p7⟩ := rec_cells o1
    obtain ⟨q0, q1, q2, q3, q4, q5, q6, q7⟩ := rec_cells o2
    have f3 : ∀ j, w3.frozen? ⟨w.heap.size + 1, j, none⟩ = false := fun j => by simp [World.frozen?, o2]
    have f3_0 := f3 5
    clear f3
    obtain ⟨w4, e4, o4, o5, B4, B14, S4⟩ : ∃ w4, (w3.setCell ⟨w.heap.size + 1, 5, none⟩ (.int .i64 0)) = w4 ∧ w4.heap[w.heap.size + 1]? = some (.cells (recCells { n with length := 0 } (.slice ae es.length ce) (.slice af fs.length cf)) 25 (0, 0)) ∧ w4.heap[w.heap.size]? = some (.cells (recCells n (.slice ae es.length ce) (.slice af fs.length cf)) 25 (0, 0)) ∧ Below w.heap.size w w4 ∧ Below w1.heap.size w1 w4 ∧ w4.heap.size = w.heap.size + 2 :=
      ⟨_, rfl, (rec_set (m := { n with length := 0 }) 5 (.int .i64 0) o2 rfl), ((Below.heap_setCell _ _ _ _ (by show w.heap.size ≠ w.heap.size + 1; omega)).trans o1), ((B2).setCell (p := ⟨w.heap.size + 1, 5, none⟩) (by show w.heap.size ≤ w.heap.size + 1; omega) (.int .i64 0)), ((B13).setCell (p := ⟨w.heap.size + 1, 5, none⟩) (by show w1.heap.size ≤ w.heap.size + 1; omega) (.int .i64 0)), by simp [World.setCell, S2]⟩
    have E4 := Lib.hid e4
    have HE4 := Lib.hid (HE.out.below B14)
    have HF4 := Lib.hid (HF.out.below B14)
    clear e4 o1 o2
    go_enter Try.func20, Try.ntmps20
    go_wp2_with fail
    rw [E1.out]
    refine (HS.out _).mono ?_
    rintro e w2 ⟨rfl, rfl⟩
    go_wp2_with fail
    go_region
    rw [E2.out]
    clear c0 c1 c2 c3 c4 c5 c6 c7
    go_wp2_with fail
    rw [E4.out]
    clear p0 p1 p2 p3 p4 p5 p6 p7 q0 q1 q2 q3 q4 q5 q6 q7 f3_0
    obtain ⟨p0, p1, p2, p3, p4, p5, p6, p7⟩ := rec_cells o5
    obtain ⟨q0, q1, q2, q3, q4, q5, q6, q7⟩ := rec_cells o4
    refine (length_any n.length _).mono ?_
    rw [X0.out]
    rintro e w5 ⟨rfl, rfl⟩
    go_wp2
    go_ret
    exact ⟨ret_bool (by rw [HM.out, HK.out, X0.out]; simp), B4⟩
  | true =>
    cases hx1 : decide (es.length = 0) with
    | false =>
      have X0 := Lib.hid hx0
      clear hx0
      have X1 := Lib.hid hx1
      have z0 : ((es.length : Int) == 0) = false := by rw [beq_eq_false_iff_ne]; have := of_decide_eq_false hx1; omega
      clear hx1
      obtain ⟨w2, e2, b2, s2, h2'⟩ := boxed w1 (recCells n (.slice ae es.length ce) (.slice af fs.length cf)) 25
      have E2 := Lib.hid (show (w1.alloc (.cells #[.int .i64 n.kind, .int .i64 n.stream, .int .i64 n.epoch, .int .i64 n.view, .int .i64 n.frm, .int .i64 n.length, .slice ae es.length ce, .slice af fs.length cf] 25)).drew = w2.drew by rw [← e2]; rfl)
      rw [s1] at h2'
      have o1 : w2.drew.heap[w.heap.size]? = some (.cells (recCells n (.slice ae es.length ce) (.slice af fs.length cf)) 25 (0, 0)) := (b2.block _ (by omega)).trans H1.out
      have o2 : w2.drew.heap[w.heap.size + 1]? = some (.cells (recCells n (.slice ae es.length ce) (.slice af fs.length cf)) 25 (0, 0)) := h2'
      have B2 : Below w.heap.size w w2.drew := (b1.trans (b2.mono b1.size)).drew
      have S2 : w2.drew.heap.size = w.heap.size + 2 := by show w2.heap.size = _; omega
      have B13 : Below w1.heap.size w1 w2.drew := b2.drew
      clear e2 h2'
      generalize w2.drew = w3 at *
      obtain ⟨p0, p1, p2, p3, p4, p5, p6, p7⟩ := rec_cells o1
      obtain ⟨q0, q1, q2, q3, q4, q5, q6, q7⟩ := rec_cells o2
      have f3 : ∀ j, w3.frozen? ⟨w.heap.size + 1, j, none⟩ = false := fun j => by simp [World.frozen?, o2]
      have f3_0 := f3 5
      clear f3
      obtain ⟨w4, e4, o4, o5, B4, B14, S4⟩ : ∃ w4, (w3.setCell ⟨w.heap.size + 1, 5, none⟩ (.int .i64 0)) = w4 ∧ w4.heap[w.heap.size + 1]? = some (.cells (recCells { n with length := 0 } (.slice ae es.length ce) (.slice af fs.length cf)) 25 (0, 0)) ∧ w4.heap[w.heap.size]? = some (.cells (recCells n (.slice ae es.length ce) (.slice af fs.length cf)) 25 (0, 0)) ∧ Below w.heap.size w w4 ∧ Below w1.heap.size w1 w4 ∧ w4.heap.size = w.heap.size + 2 :=
        ⟨_, rfl, (rec_set (m := { n with length := 0 }) 5 (.int .i64 0) o2 rfl), ((Below.heap_setCell _ _ _ _ (by show w.heap.size ≠ w.heap.size + 1; omega)).trans o1), ((B2).setCell (p := ⟨w.heap.size + 1, 5, none⟩) (by show w.heap.size ≤ w.heap.size + 1; omega) (.int .i64 0)), ((B13).setCell (p := ⟨w.heap.size + 1, 5, none⟩) (by show w1.heap.size ≤ w.heap.size + 1; omega) (.int .i64 0)), by simp [World.setCell, S2]⟩
      have E4 := Lib.hid e4
      have HE4 := Lib.hid (HE.out.below B14)
      have HF4 := Lib.hid (HF.out.below B14)
      clear e4 o1 o2
      go_enter Try.func20, Try.ntmps20
      go_wp2_with fail
      rw [E1.out]
      refine (HS.out _).mono ?_
      rintro e w2 ⟨rfl, rfl⟩
      go_wp2_with fail
      go_region
      rw [E2.out]
      clear c0 c1 c2 c3 c4 c5 c6 c7
      go_wp2_with fail
      rw [E4.out]
      clear p0 p1 p2 p3 p4 p5 p6 p7 q0 q1 q2 q3 q4 q5 q6 q7 f3_0
      obtain ⟨p0, p1, p2, p3, p4, p5, p6, p7⟩ := rec_cells o5
      obtain ⟨q0, q1, q2, q3, q4, q5, q6, q7⟩ := rec_cells o4
      refine (length_any n.length _).mono ?_
      rw [X0.out]
      rintro e w5 ⟨rfl, rfl⟩
      go_wp2
      go_ret
      exact ⟨ret_bool (by rw [HM.out, HK.out, X0.out, X1.out]; simp), B4⟩
    | true =>
      have X0 := Lib.hid hx0
      clear hx0
      have X1 := Lib.hid hx1
      have z0 : ((es.length : Int) == 0) = true := by rw [of_decide_eq_true hx1]; rfl
      clear hx1
      obtain ⟨w2, e2, b2, s2, h2'⟩ := boxed w1 (recCells n (.slice ae es.length ce) (.slice af fs.length cf)) 25
      have E2 := Lib.hid (show (w1.alloc (.cells #[.int .i64 n.kind, .int .i64 n.stream, .int .i64 n.epoch, .int .i64 n.view, .int .i64 n.frm, .int .i64 n.length, .slice ae es.length ce, .slice af fs.length cf] 25)).drew = w2.drew by rw [← e2]; rfl)
      rw [s1] at h2'
      have o1 : w2.drew.heap[w.heap.size]? = some (.cells (recCells n (.slice ae es.length ce) (.slice af fs.length cf)) 25 (0, 0)) := (b2.block _ (by omega)).trans H1.out
      have o2 : w2.drew.heap[w.heap.size + 1]? = some (.cells (recCells n (.slice ae es.length ce) (.slice af fs.length cf)) 25 (0, 0)) := h2'
      have B2 : Below w.heap.size w w2.drew := (b1.trans (b2.mono b1.size)).drew
      have S2 : w2.drew.heap.size = w.heap.size + 2 := by show w2.heap.size = _; omega
      have B13 : Below w1.heap.size w1 w2.drew := b2.drew
      clear e2 h2'
      generalize w2.drew = w3 at *
      obtain ⟨p0, p1, p2, p3, p4, p5, p6, p7⟩ := rec_cells o1
      obtain ⟨q0, q1, q2, q3, q4, q5, q6, q7⟩ := rec_cells o2
      have f3 : ∀ j, w3.frozen? ⟨w.heap.size + 1, j, none⟩ = false := fun j => by simp [World.frozen?, o2]
      have f3_0 := f3 5
      clear f3
      obtain ⟨w4, e4, o4, o5, B4, B14, S4⟩ : ∃ w4, (w3.setCell ⟨w.heap.size + 1, 5, none⟩ (.int .i64 0)) = w4 ∧ w4.heap[w.heap.size + 1]? = some (.cells (recCells { n with length := 0 } (.slice ae es.length ce) (.slice af fs.length cf)) 25 (0, 0)) ∧ w4.heap[w.heap.size]? = some (.cells (recCells n (.slice ae es.length ce) (.slice af fs.length cf)) 25 (0, 0)) ∧ Below w.heap.size w w4 ∧ Below w1.heap.size w1 w4 ∧ w4.heap.size = w.heap.size + 2 :=
        ⟨_, rfl, (rec_set (m := { n with length := 0 }) 5 (.int .i64 0) o2 rfl), ((Below.heap_setCell _ _ _ _ (by show w.heap.size ≠ w.heap.size + 1; omega)).trans o1), ((B2).setCell (p := ⟨w.heap.size + 1, 5, none⟩) (by show w.heap.size ≤ w.heap.size + 1; omega) (.int .i64 0)), ((B13).setCell (p := ⟨w.heap.size + 1, 5, none⟩) (by show w1.heap.size ≤ w.heap.size + 1; omega) (.int .i64 0)), by simp [World.setCell, S2]⟩
      have E4 := Lib.hid e4
      have HE4 := Lib.hid (HE.out.below B14)
      have HF4 := Lib.hid (HF.out.below B14)
      clear e4 o1 o2
      go_enter Try.func20, Try.ntmps20
      go_wp2_with fail
      rw [E1.out]
      refine (HS.out _).mono ?_
      rintro e w2 ⟨rfl, rfl⟩
      go_wp2_with fail
      go_region
      rw [E2.out]
      clear c0 c1 c2 c3 c4 c5 c6 c7
      go_wp2_with fail
      rw [E4.out]
      clear p0 p1 p2 p3 p4 p5 p6 p7 q0 q1 q2 q3 q4 q5 q6 q7 f3_0
      obtain ⟨p0, p1, p2, p3, p4, p5, p6, p7⟩ := rec_cells o5
      obtain ⟨q0, q1, q2, q3, q4, q5, q6, q7⟩ := rec_cells o4
      refine (length_any n.length _).mono ?_
      rw [X0.out]
      rintro e w5 ⟨rfl, rfl⟩
      go_wp2_with fail
      refine (bare_any { n with length := 0 } ae af es.length ce fs.length cf _).mono ?_
      rintro e w6 ⟨rfl, b6⟩
      go_wp2
      go_ret
      exact ⟨ret_bool (by rw [HM.out, HK.out, X0.out, X1.out]; simp), B4.trans (b6.mono B4.size)⟩
set_option maxRecDepth 100000 in
set_option maxHeartbeats 8000000 in
theorem may_k4 {B : Nat} {w : World} (n : RNum) {ae af : Option Addr} {ce cf : Nat} {es : List Ent} {fs : List Spt} (he : EntsAt B w (.slice ae es.length ce) es) (hf : SptsAt B w (.slice af fs.length cf) fs) (_hl : es.length ≤ 1000000) (_hlf : fs.length ≤ 1000000) (h1 : within n.stream 0 3 = true) (h2 : n.kind = 4) (h3 : fs.length = 0) :
    Calls Try.prog 20 #[.agg #[.int .i64 n.kind, .int .i64 n.stream, .int .i64 n.epoch, .int .i64 n.view, .int .i64 n.frm, .int .i64 n.length, .slice ae es.length ce, .slice af fs.length cf]] w fun e w' => e = .returned (.bool (mayR n es fs)) ∧ Below w.heap.size w w' := by
  obtain ⟨w1, e1, b1, s1, h1⟩ := boxed w (recCells n (.slice ae es.length ce) (.slice af fs.length cf)) 25
  have E1 := Lib.hid (show w.alloc (.cells #[.int .i64 n.kind, .int .i64 n.stream, .int .i64 n.epoch, .int .i64 n.view, .int .i64 n.frm, .int .i64 n.length, .slice ae es.length ce, .slice af fs.length cf] 25) = w1 from e1)
  obtain ⟨c0, c1, c2, c3, c4, c5, c6, c7⟩ := rec_cells h1
  have HS := Lib.hid (stream_any n.stream)
  have HE := Lib.hid (he.below b1)
  have HF := Lib.hid (hf.below b1)
  have H1 := Lib.hid h1
  clear e1 h1 he hf
  have HM := Lib.hid (show mayR n es fs = kindGood n es fs by unfold mayR; rw [h1, h2, h3]; simp)
  have HK := Lib.hid (show kindGood n es fs = (within n.epoch 0 1048576 && within n.view 0 1048576 && logGood es n.stream 0 && decide (0 ≤ n.length) && decide (n.length ≤ es.length) && bareB { n with epoch := 0, view := 0, length := 0 }) by unfold kindGood; rw [if_neg (by rw [h2]; decide)]; rw [if_neg (by rw [h2]; decide)]; rw [if_neg (by rw [h2]; decide)]; rw [if_pos h2])
  have d2 : (n.kind != 5) = true := by rw [h2]; rfl
  have k1 : (n.kind == 1) = false := by rw [h2]; rfl
  have k2 : (n.kind == 2) = false := by rw [h2]; rfl
  have k3 : (n.kind == 3) = false := by rw [h2]; rfl
  have k4 : (n.kind == 4) = true := by rw [h2]; rfl
  have k5 : (n.kind == 5) = false := by rw [h2]; rfl
  have d3 : decide ((0 : Int) < (fs.length : Int)) = false := by rw [h3]; rfl
  have d3b : decide (0 < fs.length) = false := by rw [h3]; rfl
  rw [h1] at HS
  have H2 := Lib.hid h2
  clear h1 h2
  have H3 := Lib.hid h3
  clear h3
  cases hx0 : within n.epoch 0 1048576 with
  | false =>
    have X0 := Lib.hid hx0
    clear hx0
    obtain ⟨w2, e2, b2, s2, h2'⟩ := boxed w1 (recCells n (.slice ae es.length ce) (.slice af fs.length cf)) 25
    have E2 := Lib.hid (show (w1.alloc (.cells #[.int .i64 n.kind, .int .i64 n.stream, .int .i64 n.epoch, .int .i64 n.view, .int .i64 n.frm, .int .i64 n.length, .slice ae es.length ce, .slice af fs.length cf] 25)).drew = w2.drew by rw [← e2]; rfl)
    rw [s1] at h2'
    have o1 : w2.drew.heap[w.heap.size]? = some (.cells (recCells n (.slice ae es.length ce) (.slice af fs.length cf)) 25 (0, 0)) := (b2.block _ (by omega)).trans H1.out
    have o2 : w2.drew.heap[w.heap.size + 1]? = some (.cells (recCells n (.slice ae es.length ce) (.slice af fs.length cf)) 25 (0, 0)) := h2'
    have B2 : Below w.heap.size w w2.drew := (b1.trans (b2.mono b1.size)).drew
    have S2 : w2.drew.heap.size = w.heap.size + 2 := by show w2.heap.size = _; omega
    have B13 : Below w1.heap.size w1 w2.drew := b2.drew
    clear e2 h2'
    generalize w2.drew = w3 at *
    obtain ⟨p0, p1, p2, p3, p4, p5, p6, p7⟩ := rec_cells o1
    obtain ⟨q0, q1, q2, q3, q4, q5, q6, q7⟩ := rec_cells o2
    have f3 : ∀ j, w3.frozen? ⟨w.heap.size + 1, j, none⟩ = false := fun j => by simp [World.frozen?, o2]
    have f3_0 := f3 2
    have f3_1 := f3 3
    have f3_2 := f3 5
    clear f3
    obtain ⟨w4, e4, o4, o5, B4, B14, S4⟩ : ∃ w4, (((w3.setCell ⟨w.heap.size + 1, 2, none⟩ (.int .i64 0)).setCell ⟨w.heap.size + 1, 3, none⟩ (.int .i64 0)).setCell ⟨w.heap.size + 1, 5, none⟩ (.int .i64 0)) = w4 ∧ w4.heap[w.heap.size + 1]? = some (.cells (recCells { n with epoch := 0, view := 0, length := 0 } (.slice ae es.length ce) (.slice af fs.length cf)) 25 (0, 0)) ∧ w4.heap[w.heap.size]? = some (.cells (recCells n (.slice ae es.length ce) (.slice af fs.length cf)) 25 (0, 0)) ∧ Below w.heap.size w w4 ∧ Below w1.heap.size w1 w4 ∧ w4.heap.size = w.heap.size + 2 :=
      ⟨_, rfl, (rec_set (m := { n with epoch := 0, view := 0, length := 0 }) 5 (.int .i64 0) (rec_set (m := { n with epoch := 0, view := 0 }) 3 (.int .i64 0) (rec_set (m := { n with epoch := 0 }) 2 (.int .i64 0) o2 rfl) rfl) rfl), ((Below.heap_setCell _ _ _ _ (by show w.heap.size ≠ w.heap.size + 1; omega)).trans ((Below.heap_setCell _ _ _ _ (by show w.heap.size ≠ w.heap.size + 1; omega)).trans ((Below.heap_setCell _ _ _ _ (by show w.heap.size ≠ w.heap.size + 1; omega)).trans o1))), ((((B2).setCell (p := ⟨w.heap.size + 1, 2, none⟩) (by show w.heap.size ≤ w.heap.size + 1; omega) (.int .i64 0)).setCell (p := ⟨w.heap.size + 1, 3, none⟩) (by show w.heap.size ≤ w.heap.size + 1; omega) (.int .i64 0)).setCell (p := ⟨w.heap.size + 1, 5, none⟩) (by show w.heap.size ≤ w.heap.size + 1; omega) (.int .i64 0)), ((((B13).setCell (p := ⟨w.heap.size + 1, 2, none⟩) (by show w1.heap.size ≤ w.heap.size + 1; omega) (.int .i64 0)).setCell (p := ⟨w.heap.size + 1, 3, none⟩) (by show w1.heap.size ≤ w.heap.size + 1; omega) (.int .i64 0)).setCell (p := ⟨w.heap.size + 1, 5, none⟩) (by show w1.heap.size ≤ w.heap.size + 1; omega) (.int .i64 0)), by simp [World.setCell, S2]⟩
    have E4 := Lib.hid e4
    have HE4 := Lib.hid (HE.out.below B14)
    have HF4 := Lib.hid (HF.out.below B14)
    clear e4 o1 o2
    go_enter Try.func20, Try.ntmps20
    go_wp2_with fail
    rw [E1.out]
    refine (HS.out _).mono ?_
    rintro e w2 ⟨rfl, rfl⟩
    go_wp2_with fail
    go_region
    rw [E2.out]
    clear c0 c1 c2 c3 c4 c5 c6 c7
    go_wp2_with fail
    rw [E4.out]
    clear p0 p1 p2 p3 p4 p5 p6 p7 q0 q1 q2 q3 q4 q5 q6 q7 f3_0 f3_1 f3_2
    obtain ⟨p0, p1, p2, p3, p4, p5, p6, p7⟩ := rec_cells o5
    obtain ⟨q0, q1, q2, q3, q4, q5, q6, q7⟩ := rec_cells o4
    refine (epoch_any n.epoch 0 _).mono ?_
    rw [X0.out]
    rintro e w5 ⟨rfl, rfl⟩
    go_wp2
    go_ret
    exact ⟨ret_bool (by rw [HM.out, HK.out, X0.out]; simp), B4⟩
  | true =>
    cases hx1 : within n.view 0 1048576 with
    | false =>
      have X0 := Lib.hid hx0
      clear hx0
      have X1 := Lib.hid hx1
      clear hx1
      obtain ⟨w2, e2, b2, s2, h2'⟩ := boxed w1 (recCells n (.slice ae es.length ce) (.slice af fs.length cf)) 25
      have E2 := Lib.hid (show (w1.alloc (.cells #[.int .i64 n.kind, .int .i64 n.stream, .int .i64 n.epoch, .int .i64 n.view, .int .i64 n.frm, .int .i64 n.length, .slice ae es.length ce, .slice af fs.length cf] 25)).drew = w2.drew by rw [← e2]; rfl)
      rw [s1] at h2'
      have o1 : w2.drew.heap[w.heap.size]? = some (.cells (recCells n (.slice ae es.length ce) (.slice af fs.length cf)) 25 (0, 0)) := (b2.block _ (by omega)).trans H1.out
      have o2 : w2.drew.heap[w.heap.size + 1]? = some (.cells (recCells n (.slice ae es.length ce) (.slice af fs.length cf)) 25 (0, 0)) := h2'
      have B2 : Below w.heap.size w w2.drew := (b1.trans (b2.mono b1.size)).drew
      have S2 : w2.drew.heap.size = w.heap.size + 2 := by show w2.heap.size = _; omega
      have B13 : Below w1.heap.size w1 w2.drew := b2.drew
      clear e2 h2'
      generalize w2.drew = w3 at *
      obtain ⟨p0, p1, p2, p3, p4, p5, p6, p7⟩ := rec_cells o1
      obtain ⟨q0, q1, q2, q3, q4, q5, q6, q7⟩ := rec_cells o2
      have f3 : ∀ j, w3.frozen? ⟨w.heap.size + 1, j, none⟩ = false := fun j => by simp [World.frozen?, o2]
      have f3_0 := f3 2
      have f3_1 := f3 3
      have f3_2 := f3 5
      clear f3
      obtain ⟨w4, e4, o4, o5, B4, B14, S4⟩ : ∃ w4, (((w3.setCell ⟨w.heap.size + 1, 2, none⟩ (.int .i64 0)).setCell ⟨w.heap.size + 1, 3, none⟩ (.int .i64 0)).setCell ⟨w.heap.size + 1, 5, none⟩ (.int .i64 0)) = w4 ∧ w4.heap[w.heap.size + 1]? = some (.cells (recCells { n with epoch := 0, view := 0, length := 0 } (.slice ae es.length ce) (.slice af fs.length cf)) 25 (0, 0)) ∧ w4.heap[w.heap.size]? = some (.cells (recCells n (.slice ae es.length ce) (.slice af fs.length cf)) 25 (0, 0)) ∧ Below w.heap.size w w4 ∧ Below w1.heap.size w1 w4 ∧ w4.heap.size = w.heap.size + 2 :=
        ⟨_, rfl, (rec_set (m := { n with epoch := 0, view := 0, length := 0 }) 5 (.int .i64 0) (rec_set (m := { n with epoch := 0, view := 0 }) 3 (.int .i64 0) (rec_set (m := { n with epoch := 0 }) 2 (.int .i64 0) o2 rfl) rfl) rfl), ((Below.heap_setCell _ _ _ _ (by show w.heap.size ≠ w.heap.size + 1; omega)).trans ((Below.heap_setCell _ _ _ _ (by show w.heap.size ≠ w.heap.size + 1; omega)).trans ((Below.heap_setCell _ _ _ _ (by show w.heap.size ≠ w.heap.size + 1; omega)).trans o1))), ((((B2).setCell (p := ⟨w.heap.size + 1, 2, none⟩) (by show w.heap.size ≤ w.heap.size + 1; omega) (.int .i64 0)).setCell (p := ⟨w.heap.size + 1, 3, none⟩) (by show w.heap.size ≤ w.heap.size + 1; omega) (.int .i64 0)).setCell (p := ⟨w.heap.size + 1, 5, none⟩) (by show w.heap.size ≤ w.heap.size + 1; omega) (.int .i64 0)), ((((B13).setCell (p := ⟨w.heap.size + 1, 2, none⟩) (by show w1.heap.size ≤ w.heap.size + 1; omega) (.int .i64 0)).setCell (p := ⟨w.heap.size + 1, 3, none⟩) (by show w1.heap.size ≤ w.heap.size + 1; omega) (.int .i64 0)).setCell (p := ⟨w.heap.size + 1, 5, none⟩) (by show w1.heap.size ≤ w.heap.size + 1; omega) (.int .i64 0)), by simp [World.setCell, S2]⟩
      have E4 := Lib.hid e4
      have HE4 := Lib.hid (HE.out.below B14)
      have HF4 := Lib.hid (HF.out.below B14)
      clear e4 o1 o2
      go_enter Try.func20, Try.ntmps20
      go_wp2_with fail
      rw [E1.out]
      refine (HS.out _).mono ?_
      rintro e w2 ⟨rfl, rfl⟩
      go_wp2_with fail
      go_region
      rw [E2.out]
      clear c0 c1 c2 c3 c4 c5 c6 c7
      go_wp2_with fail
      rw [E4.out]
      clear p0 p1 p2 p3 p4 p5 p6 p7 q0 q1 q2 q3 q4 q5 q6 q7 f3_0 f3_1 f3_2
      obtain ⟨p0, p1, p2, p3, p4, p5, p6, p7⟩ := rec_cells o5
      obtain ⟨q0, q1, q2, q3, q4, q5, q6, q7⟩ := rec_cells o4
      refine (epoch_any n.epoch 0 _).mono ?_
      rw [X0.out]
      rintro e w5 ⟨rfl, rfl⟩
      go_wp2_with fail
      refine (epoch_any n.view 0 _).mono ?_
      rw [X1.out]
      rintro e w5 ⟨rfl, rfl⟩
      go_wp2
      go_ret
      exact ⟨ret_bool (by rw [HM.out, HK.out, X0.out, X1.out]; simp), B4⟩
    | true =>
      cases hx2 : logGood es n.stream 0 with
      | false =>
        have X0 := Lib.hid hx0
        clear hx0
        have X1 := Lib.hid hx1
        clear hx1
        have X2 := Lib.hid hx2
        clear hx2
        obtain ⟨w2, e2, b2, s2, h2'⟩ := boxed w1 (recCells n (.slice ae es.length ce) (.slice af fs.length cf)) 25
        have E2 := Lib.hid (show (w1.alloc (.cells #[.int .i64 n.kind, .int .i64 n.stream, .int .i64 n.epoch, .int .i64 n.view, .int .i64 n.frm, .int .i64 n.length, .slice ae es.length ce, .slice af fs.length cf] 25)).drew = w2.drew by rw [← e2]; rfl)
        rw [s1] at h2'
        have o1 : w2.drew.heap[w.heap.size]? = some (.cells (recCells n (.slice ae es.length ce) (.slice af fs.length cf)) 25 (0, 0)) := (b2.block _ (by omega)).trans H1.out
        have o2 : w2.drew.heap[w.heap.size + 1]? = some (.cells (recCells n (.slice ae es.length ce) (.slice af fs.length cf)) 25 (0, 0)) := h2'
        have B2 : Below w.heap.size w w2.drew := (b1.trans (b2.mono b1.size)).drew
        have S2 : w2.drew.heap.size = w.heap.size + 2 := by show w2.heap.size = _; omega
        have B13 : Below w1.heap.size w1 w2.drew := b2.drew
        clear e2 h2'
        generalize w2.drew = w3 at *
        obtain ⟨p0, p1, p2, p3, p4, p5, p6, p7⟩ := rec_cells o1
        obtain ⟨q0, q1, q2, q3, q4, q5, q6, q7⟩ := rec_cells o2
        have f3 : ∀ j, w3.frozen? ⟨w.heap.size + 1, j, none⟩ = false := fun j => by simp [World.frozen?, o2]
        have f3_0 := f3 2
        have f3_1 := f3 3
        have f3_2 := f3 5
        clear f3
        obtain ⟨w4, e4, o4, o5, B4, B14, S4⟩ : ∃ w4, (((w3.setCell ⟨w.heap.size + 1, 2, none⟩ (.int .i64 0)).setCell ⟨w.heap.size + 1, 3, none⟩ (.int .i64 0)).setCell ⟨w.heap.size + 1, 5, none⟩ (.int .i64 0)) = w4 ∧ w4.heap[w.heap.size + 1]? = some (.cells (recCells { n with epoch := 0, view := 0, length := 0 } (.slice ae es.length ce) (.slice af fs.length cf)) 25 (0, 0)) ∧ w4.heap[w.heap.size]? = some (.cells (recCells n (.slice ae es.length ce) (.slice af fs.length cf)) 25 (0, 0)) ∧ Below w.heap.size w w4 ∧ Below w1.heap.size w1 w4 ∧ w4.heap.size = w.heap.size + 2 :=
          ⟨_, rfl, (rec_set (m := { n with epoch := 0, view := 0, length := 0 }) 5 (.int .i64 0) (rec_set (m := { n with epoch := 0, view := 0 }) 3 (.int .i64 0) (rec_set (m := { n with epoch := 0 }) 2 (.int .i64 0) o2 rfl) rfl) rfl), ((Below.heap_setCell _ _ _ _ (by show w.heap.size ≠ w.heap.size + 1; omega)).trans ((Below.heap_setCell _ _ _ _ (by show w.heap.size ≠ w.heap.size + 1; omega)).trans ((Below.heap_setCell _ _ _ _ (by show w.heap.size ≠ w.heap.size + 1; omega)).trans o1))), ((((B2).setCell (p := ⟨w.heap.size + 1, 2, none⟩) (by show w.heap.size ≤ w.heap.size + 1; omega) (.int .i64 0)).setCell (p := ⟨w.heap.size + 1, 3, none⟩) (by show w.heap.size ≤ w.heap.size + 1; omega) (.int .i64 0)).setCell (p := ⟨w.heap.size + 1, 5, none⟩) (by show w.heap.size ≤ w.heap.size + 1; omega) (.int .i64 0)), ((((B13).setCell (p := ⟨w.heap.size + 1, 2, none⟩) (by show w1.heap.size ≤ w.heap.size + 1; omega) (.int .i64 0)).setCell (p := ⟨w.heap.size + 1, 3, none⟩) (by show w1.heap.size ≤ w.heap.size + 1; omega) (.int .i64 0)).setCell (p := ⟨w.heap.size + 1, 5, none⟩) (by show w1.heap.size ≤ w.heap.size + 1; omega) (.int .i64 0)), by simp [World.setCell, S2]⟩
        have E4 := Lib.hid e4
        have HE4 := Lib.hid (HE.out.below B14)
        have HF4 := Lib.hid (HF.out.below B14)
        clear e4 o1 o2
        go_enter Try.func20, Try.ntmps20
        go_wp2_with fail
        rw [E1.out]
        refine (HS.out _).mono ?_
        rintro e w2 ⟨rfl, rfl⟩
        go_wp2_with fail
        go_region
        rw [E2.out]
        clear c0 c1 c2 c3 c4 c5 c6 c7
        go_wp2_with fail
        rw [E4.out]
        clear p0 p1 p2 p3 p4 p5 p6 p7 q0 q1 q2 q3 q4 q5 q6 q7 f3_0 f3_1 f3_2
        obtain ⟨p0, p1, p2, p3, p4, p5, p6, p7⟩ := rec_cells o5
        obtain ⟨q0, q1, q2, q3, q4, q5, q6, q7⟩ := rec_cells o4
        refine (epoch_any n.epoch 0 _).mono ?_
        rw [X0.out]
        rintro e w5 ⟨rfl, rfl⟩
        go_wp2_with fail
        refine (epoch_any n.view 0 _).mono ?_
        rw [X1.out]
        rintro e w5 ⟨rfl, rfl⟩
        go_wp2_with fail
        refine (log_any n.stream 0 HE4.out _hl).mono ?_
        rw [X2.out]
        rintro e w5 ⟨rfl, b5⟩
        clear p0 p1 p2 p3 p4 p5 p6 p7 q0 q1 q2 q3 q4 q5 q6 q7
        have r5 := (b5.block _ (by omega)).trans o5
        have r4 := (b5.block _ (by omega)).trans o4
        obtain ⟨p0, p1, p2, p3, p4, p5, p6, p7⟩ := rec_cells r5
        obtain ⟨q0, q1, q2, q3, q4, q5, q6, q7⟩ := rec_cells r4
        have B5 := B4.trans (b5.mono (by omega))
        go_wp2
        go_ret
        exact ⟨ret_bool (by rw [HM.out, HK.out, X0.out, X1.out, X2.out]; simp), B5⟩
      | true =>
        cases hx3 : decide (0 ≤ n.length) with
        | false =>
          have X0 := Lib.hid hx0
          clear hx0
          have X1 := Lib.hid hx1
          clear hx1
          have X2 := Lib.hid hx2
          clear hx2
          have X3 := Lib.hid hx3
          have t3 := hx3
          clear hx3
          obtain ⟨w2, e2, b2, s2, h2'⟩ := boxed w1 (recCells n (.slice ae es.length ce) (.slice af fs.length cf)) 25
          have E2 := Lib.hid (show (w1.alloc (.cells #[.int .i64 n.kind, .int .i64 n.stream, .int .i64 n.epoch, .int .i64 n.view, .int .i64 n.frm, .int .i64 n.length, .slice ae es.length ce, .slice af fs.length cf] 25)).drew = w2.drew by rw [← e2]; rfl)
          rw [s1] at h2'
          have o1 : w2.drew.heap[w.heap.size]? = some (.cells (recCells n (.slice ae es.length ce) (.slice af fs.length cf)) 25 (0, 0)) := (b2.block _ (by omega)).trans H1.out
          have o2 : w2.drew.heap[w.heap.size + 1]? = some (.cells (recCells n (.slice ae es.length ce) (.slice af fs.length cf)) 25 (0, 0)) := h2'
          have B2 : Below w.heap.size w w2.drew := (b1.trans (b2.mono b1.size)).drew
          have S2 : w2.drew.heap.size = w.heap.size + 2 := by show w2.heap.size = _; omega
          have B13 : Below w1.heap.size w1 w2.drew := b2.drew
          clear e2 h2'
          generalize w2.drew = w3 at *
          obtain ⟨p0, p1, p2, p3, p4, p5, p6, p7⟩ := rec_cells o1
          obtain ⟨q0, q1, q2, q3, q4, q5, q6, q7⟩ := rec_cells o2
          have f3 : ∀ j, w3.frozen? ⟨w.heap.size + 1, j, none⟩ = false := fun j => by simp [World.frozen?, o2]
          have f3_0 := f3 2
          have f3_1 := f3 3
          have f3_2 := f3 5
          clear f3
          obtain ⟨w4, e4, o4, o5, B4, B14, S4⟩ : ∃ w4, (((w3.setCell ⟨w.heap.size + 1, 2, none⟩ (.int .i64 0)).setCell ⟨w.heap.size + 1, 3, none⟩ (.int .i64 0)).setCell ⟨w.heap.size + 1, 5, none⟩ (.int .i64 0)) = w4 ∧ w4.heap[w.heap.size + 1]? = some (.cells (recCells { n with epoch := 0, view := 0, length := 0 } (.slice ae es.length ce) (.slice af fs.length cf)) 25 (0, 0)) ∧ w4.heap[w.heap.size]? = some (.cells (recCells n (.slice ae es.length ce) (.slice af fs.length cf)) 25 (0, 0)) ∧ Below w.heap.size w w4 ∧ Below w1.heap.size w1 w4 ∧ w4.heap.size = w.heap.size + 2 :=
            ⟨_, rfl, (rec_set (m := { n with epoch := 0, view := 0, length := 0 }) 5 (.int .i64 0) (rec_set (m := { n with epoch := 0, view := 0 }) 3 (.int .i64 0) (rec_set (m := { n with epoch := 0 }) 2 (.int .i64 0) o2 rfl) rfl) rfl), ((Below.heap_setCell _ _ _ _ (by show w.heap.size ≠ w.heap.size + 1; omega)).trans ((Below.heap_setCell _ _ _ _ (by show w.heap.size ≠ w.heap.size + 1; omega)).trans ((Below.heap_setCell _ _ _ _ (by show w.heap.size ≠ w.heap.size + 1; omega)).trans o1))), ((((B2).setCell (p := ⟨w.heap.size + 1, 2, none⟩) (by show w.heap.size ≤ w.heap.size + 1; omega) (.int .i64 0)).setCell (p := ⟨w.heap.size + 1, 3, none⟩) (by show w.heap.size ≤ w.heap.size + 1; omega) (.int .i64 0)).setCell (p := ⟨w.heap.size + 1, 5, none⟩) (by show w.heap.size ≤ w.heap.size + 1; omega) (.int .i64 0)), ((((B13).setCell (p := ⟨w.heap.size + 1, 2, none⟩) (by show w1.heap.size ≤ w.heap.size + 1; omega) (.int .i64 0)).setCell (p := ⟨w.heap.size + 1, 3, none⟩) (by show w1.heap.size ≤ w.heap.size + 1; omega) (.int .i64 0)).setCell (p := ⟨w.heap.size + 1, 5, none⟩) (by show w1.heap.size ≤ w.heap.size + 1; omega) (.int .i64 0)), by simp [World.setCell, S2]⟩
          have E4 := Lib.hid e4
          have HE4 := Lib.hid (HE.out.below B14)
          have HF4 := Lib.hid (HF.out.below B14)
          clear e4 o1 o2
          go_enter Try.func20, Try.ntmps20
          go_wp2_with fail
          rw [E1.out]
          refine (HS.out _).mono ?_
          rintro e w2 ⟨rfl, rfl⟩
          go_wp2_with fail
          go_region
          rw [E2.out]
          clear c0 c1 c2 c3 c4 c5 c6 c7
          go_wp2_with fail
          rw [E4.out]
          clear p0 p1 p2 p3 p4 p5 p6 p7 q0 q1 q2 q3 q4 q5 q6 q7 f3_0 f3_1 f3_2
          obtain ⟨p0, p1, p2, p3, p4, p5, p6, p7⟩ := rec_cells o5
          obtain ⟨q0, q1, q2, q3, q4, q5, q6, q7⟩ := rec_cells o4
          refine (epoch_any n.epoch 0 _).mono ?_
          rw [X0.out]
          rintro e w5 ⟨rfl, rfl⟩
          go_wp2_with fail
          refine (epoch_any n.view 0 _).mono ?_
          rw [X1.out]
          rintro e w5 ⟨rfl, rfl⟩
          go_wp2_with fail
          refine (log_any n.stream 0 HE4.out _hl).mono ?_
          rw [X2.out]
          rintro e w5 ⟨rfl, b5⟩
          clear p0 p1 p2 p3 p4 p5 p6 p7 q0 q1 q2 q3 q4 q5 q6 q7
          have r5 := (b5.block _ (by omega)).trans o5
          have r4 := (b5.block _ (by omega)).trans o4
          obtain ⟨p0, p1, p2, p3, p4, p5, p6, p7⟩ := rec_cells r5
          obtain ⟨q0, q1, q2, q3, q4, q5, q6, q7⟩ := rec_cells r4
          have B5 := B4.trans (b5.mono (by omega))
          go_wp2
          go_ret
          exact ⟨ret_bool (by rw [HM.out, HK.out, X0.out, X1.out, X2.out, X3.out]; simp), B5⟩
        | true =>
          cases hx4 : decide (n.length ≤ es.length) with
          | false =>
            have X0 := Lib.hid hx0
            clear hx0
            have X1 := Lib.hid hx1
            clear hx1
            have X2 := Lib.hid hx2
            clear hx2
            have X3 := Lib.hid hx3
            have t3 := hx3
            clear hx3
            have X4 := Lib.hid hx4
            have t4 := hx4
            clear hx4
            obtain ⟨w2, e2, b2, s2, h2'⟩ := boxed w1 (recCells n (.slice ae es.length ce) (.slice af fs.length cf)) 25
            have E2 := Lib.hid (show (w1.alloc (.cells #[.int .i64 n.kind, .int .i64 n.stream, .int .i64 n.epoch, .int .i64 n.view, .int .i64 n.frm, .int .i64 n.length, .slice ae es.length ce, .slice af fs.length cf] 25)).drew = w2.drew by rw [← e2]; rfl)
            rw [s1] at h2'
            have o1 : w2.drew.heap[w.heap.size]? = some (.cells (recCells n (.slice ae es.length ce) (.slice af fs.length cf)) 25 (0, 0)) := (b2.block _ (by omega)).trans H1.out
            have o2 : w2.drew.heap[w.heap.size + 1]? = some (.cells (recCells n (.slice ae es.length ce) (.slice af fs.length cf)) 25 (0, 0)) := h2'
            have B2 : Below w.heap.size w w2.drew := (b1.trans (b2.mono b1.size)).drew
            have S2 : w2.drew.heap.size = w.heap.size + 2 := by show w2.heap.size = _; omega
            have B13 : Below w1.heap.size w1 w2.drew := b2.drew
            clear e2 h2'
            generalize w2.drew = w3 at *
            obtain ⟨p0, p1, p2, p3, p4, p5, p6, p7⟩ := rec_cells o1
            obtain ⟨q0, q1, q2, q3, q4, q5, q6, q7⟩ := rec_cells o2
            have f3 : ∀ j, w3.frozen? ⟨w.heap.size + 1, j, none⟩ = false := fun j => by simp [World.frozen?, o2]
            have f3_0 := f3 2
            have f3_1 := f3 3
            have f3_2 := f3 5
            clear f3
            obtain ⟨w4, e4, o4, o5, B4, B14, S4⟩ : ∃ w4, (((w3.setCell ⟨w.heap.size + 1, 2, none⟩ (.int .i64 0)).setCell ⟨w.heap.size + 1, 3, none⟩ (.int .i64 0)).setCell ⟨w.heap.size + 1, 5, none⟩ (.int .i64 0)) = w4 ∧ w4.heap[w.heap.size + 1]? = some (.cells (recCells { n with epoch := 0, view := 0, length := 0 } (.slice ae es.length ce) (.slice af fs.length cf)) 25 (0, 0)) ∧ w4.heap[w.heap.size]? = some (.cells (recCells n (.slice ae es.length ce) (.slice af fs.length cf)) 25 (0, 0)) ∧ Below w.heap.size w w4 ∧ Below w1.heap.size w1 w4 ∧ w4.heap.size = w.heap.size + 2 :=
              ⟨_, rfl, (rec_set (m := { n with epoch := 0, view := 0, length := 0 }) 5 (.int .i64 0) (rec_set (m := { n with epoch := 0, view := 0 }) 3 (.int .i64 0) (rec_set (m := { n with epoch := 0 }) 2 (.int .i64 0) o2 rfl) rfl) rfl), ((Below.heap_setCell _ _ _ _ (by show w.heap.size ≠ w.heap.size + 1; omega)).trans ((Below.heap_setCell _ _ _ _ (by show w.heap.size ≠ w.heap.size + 1; omega)).trans ((Below.heap_setCell _ _ _ _ (by show w.heap.size ≠ w.heap.size + 1; omega)).trans o1))), ((((B2).setCell (p := ⟨w.heap.size + 1, 2, none⟩) (by show w.heap.size ≤ w.heap.size + 1; omega) (.int .i64 0)).setCell (p := ⟨w.heap.size + 1, 3, none⟩) (by show w.heap.size ≤ w.heap.size + 1; omega) (.int .i64 0)).setCell (p := ⟨w.heap.size + 1, 5, none⟩) (by show w.heap.size ≤ w.heap.size + 1; omega) (.int .i64 0)), ((((B13).setCell (p := ⟨w.heap.size + 1, 2, none⟩) (by show w1.heap.size ≤ w.heap.size + 1; omega) (.int .i64 0)).setCell (p := ⟨w.heap.size + 1, 3, none⟩) (by show w1.heap.size ≤ w.heap.size + 1; omega) (.int .i64 0)).setCell (p := ⟨w.heap.size + 1, 5, none⟩) (by show w1.heap.size ≤ w.heap.size + 1; omega) (.int .i64 0)), by simp [World.setCell, S2]⟩
            have E4 := Lib.hid e4
            have HE4 := Lib.hid (HE.out.below B14)
            have HF4 := Lib.hid (HF.out.below B14)
            clear e4 o1 o2
            go_enter Try.func20, Try.ntmps20
            go_wp2_with fail
            rw [E1.out]
            refine (HS.out _).mono ?_
            rintro e w2 ⟨rfl, rfl⟩
            go_wp2_with fail
            go_region
            rw [E2.out]
            clear c0 c1 c2 c3 c4 c5 c6 c7
            go_wp2_with fail
            rw [E4.out]
            clear p0 p1 p2 p3 p4 p5 p6 p7 q0 q1 q2 q3 q4 q5 q6 q7 f3_0 f3_1 f3_2
            obtain ⟨p0, p1, p2, p3, p4, p5, p6, p7⟩ := rec_cells o5
            obtain ⟨q0, q1, q2, q3, q4, q5, q6, q7⟩ := rec_cells o4
            refine (epoch_any n.epoch 0 _).mono ?_
            rw [X0.out]
            rintro e w5 ⟨rfl, rfl⟩
            go_wp2_with fail
            refine (epoch_any n.view 0 _).mono ?_
            rw [X1.out]
            rintro e w5 ⟨rfl, rfl⟩
            go_wp2_with fail
            refine (log_any n.stream 0 HE4.out _hl).mono ?_
            rw [X2.out]
            rintro e w5 ⟨rfl, b5⟩
            clear p0 p1 p2 p3 p4 p5 p6 p7 q0 q1 q2 q3 q4 q5 q6 q7
            have r5 := (b5.block _ (by omega)).trans o5
            have r4 := (b5.block _ (by omega)).trans o4
            obtain ⟨p0, p1, p2, p3, p4, p5, p6, p7⟩ := rec_cells r5
            obtain ⟨q0, q1, q2, q3, q4, q5, q6, q7⟩ := rec_cells r4
            have B5 := B4.trans (b5.mono (by omega))
            go_wp2
            go_ret
            exact ⟨ret_bool (by rw [HM.out, HK.out, X0.out, X1.out, X2.out, X3.out, X4.out]; simp), B5⟩
          | true =>
            have X0 := Lib.hid hx0
            clear hx0
            have X1 := Lib.hid hx1
            clear hx1
            have X2 := Lib.hid hx2
            clear hx2
            have X3 := Lib.hid hx3
            have t3 := hx3
            clear hx3
            have X4 := Lib.hid hx4
            have t4 := hx4
            clear hx4
            obtain ⟨w2, e2, b2, s2, h2'⟩ := boxed w1 (recCells n (.slice ae es.length ce) (.slice af fs.length cf)) 25
            have E2 := Lib.hid (show (w1.alloc (.cells #[.int .i64 n.kind, .int .i64 n.stream, .int .i64 n.epoch, .int .i64 n.view, .int .i64 n.frm, .int .i64 n.length, .slice ae es.length ce, .slice af fs.length cf] 25)).drew = w2.drew by rw [← e2]; rfl)
            rw [s1] at h2'
            have o1 : w2.drew.heap[w.heap.size]? = some (.cells (recCells n (.slice ae es.length ce) (.slice af fs.length cf)) 25 (0, 0)) := (b2.block _ (by omega)).trans H1.out
            have o2 : w2.drew.heap[w.heap.size + 1]? = some (.cells (recCells n (.slice ae es.length ce) (.slice af fs.length cf)) 25 (0, 0)) := h2'
            have B2 : Below w.heap.size w w2.drew := (b1.trans (b2.mono b1.size)).drew
            have S2 : w2.drew.heap.size = w.heap.size + 2 := by show w2.heap.size = _; omega
            have B13 : Below w1.heap.size w1 w2.drew := b2.drew
            clear e2 h2'
            generalize w2.drew = w3 at *
            obtain ⟨p0, p1, p2, p3, p4, p5, p6, p7⟩ := rec_cells o1
            obtain ⟨q0, q1, q2, q3, q4, q5, q6, q7⟩ := rec_cells o2
            have f3 : ∀ j, w3.frozen? ⟨w.heap.size + 1, j, none⟩ = false := fun j => by simp [World.frozen?, o2]
            have f3_0 := f3 2
            have f3_1 := f3 3
            have f3_2 := f3 5
            clear f3
            obtain ⟨w4, e4, o4, o5, B4, B14, S4⟩ : ∃ w4, (((w3.setCell ⟨w.heap.size + 1, 2, none⟩ (.int .i64 0)).setCell ⟨w.heap.size + 1, 3, none⟩ (.int .i64 0)).setCell ⟨w.heap.size + 1, 5, none⟩ (.int .i64 0)) = w4 ∧ w4.heap[w.heap.size + 1]? = some (.cells (recCells { n with epoch := 0, view := 0, length := 0 } (.slice ae es.length ce) (.slice af fs.length cf)) 25 (0, 0)) ∧ w4.heap[w.heap.size]? = some (.cells (recCells n (.slice ae es.length ce) (.slice af fs.length cf)) 25 (0, 0)) ∧ Below w.heap.size w w4 ∧ Below w1.heap.size w1 w4 ∧ w4.heap.size = w.heap.size + 2 :=
              ⟨_, rfl, (rec_set (m := { n with epoch := 0, view := 0, length := 0 }) 5 (.int .i64 0) (rec_set (m := { n with epoch := 0, view := 0 }) 3 (.int .i64 0) (rec_set (m := { n with epoch := 0 }) 2 (.int .i64 0) o2 rfl) rfl) rfl), ((Below.heap_setCell _ _ _ _ (by show w.heap.size ≠ w.heap.size + 1; omega)).trans ((Below.heap_setCell _ _ _ _ (by show w.heap.size ≠ w.heap.size + 1; omega)).trans ((Below.heap_setCell _ _ _ _ (by show w.heap.size ≠ w.heap.size + 1; omega)).trans o1))), ((((B2).setCell (p := ⟨w.heap.size + 1, 2, none⟩) (by show w.heap.size ≤ w.heap.size + 1; omega) (.int .i64 0)).setCell (p := ⟨w.heap.size + 1, 3, none⟩) (by show w.heap.size ≤ w.heap.size + 1; omega) (.int .i64 0)).setCell (p := ⟨w.heap.size + 1, 5, none⟩) (by show w.heap.size ≤ w.heap.size + 1; omega) (.int .i64 0)), ((((B13).setCell (p := ⟨w.heap.size + 1, 2, none⟩) (by show w1.heap.size ≤ w.heap.size + 1; omega) (.int .i64 0)).setCell (p := ⟨w.heap.size + 1, 3, none⟩) (by show w1.heap.size ≤ w.heap.size + 1; omega) (.int .i64 0)).setCell (p := ⟨w.heap.size + 1, 5, none⟩) (by show w1.heap.size ≤ w.heap.size + 1; omega) (.int .i64 0)), by simp [World.setCell, S2]⟩
            have E4 := Lib.hid e4
            have HE4 := Lib.hid (HE.out.below B14)
            have HF4 := Lib.hid (HF.out.below B14)
            clear e4 o1 o2
            go_enter Try.func20, Try.ntmps20
            go_wp2_with fail
            rw [E1.out]
            refine (HS.out _).mono ?_
            rintro e w2 ⟨rfl, rfl⟩
            go_wp2_with fail
            go_region
            rw [E2.out]
            clear c0 c1 c2 c3 c4 c5 c6 c7
            go_wp2_with fail
            rw [E4.out]
            clear p0 p1 p2 p3 p4 p5 p6 p7 q0 q1 q2 q3 q4 q5 q6 q7 f3_0 f3_1 f3_2
            obtain ⟨p0, p1, p2, p3, p4, p5, p6, p7⟩ := rec_cells o5
            obtain ⟨q0, q1, q2, q3, q4, q5, q6, q7⟩ := rec_cells o4
            refine (epoch_any n.epoch 0 _).mono ?_
            rw [X0.out]
            rintro e w5 ⟨rfl, rfl⟩
            go_wp2_with fail
            refine (epoch_any n.view 0 _).mono ?_
            rw [X1.out]
            rintro e w5 ⟨rfl, rfl⟩
            go_wp2_with fail
            refine (log_any n.stream 0 HE4.out _hl).mono ?_
            rw [X2.out]
            rintro e w5 ⟨rfl, b5⟩
            clear p0 p1 p2 p3 p4 p5 p6 p7 q0 q1 q2 q3 q4 q5 q6 q7
            have r5 := (b5.block _ (by omega)).trans o5
            have r4 := (b5.block _ (by omega)).trans o4
            obtain ⟨p0, p1, p2, p3, p4, p5, p6, p7⟩ := rec_cells r5
            obtain ⟨q0, q1, q2, q3, q4, q5, q6, q7⟩ := rec_cells r4
            have B5 := B4.trans (b5.mono (by omega))
            go_wp2_with fail
            refine (bare_any { n with epoch := 0, view := 0, length := 0 } ae af es.length ce fs.length cf _).mono ?_
            rintro e w6 ⟨rfl, b6⟩
            go_wp2
            go_ret
            exact ⟨ret_bool (by rw [HM.out, HK.out, X0.out, X1.out, X2.out, X3.out, X4.out]; simp), B5.trans (b6.mono B5.size)⟩
set_option maxRecDepth 100000 in
set_option maxHeartbeats 8000000 in
theorem may_k5 {B : Nat} {w : World} (n : RNum) {ae af : Option Addr} {ce cf : Nat} {es : List Ent} {fs : List Spt} (he : EntsAt B w (.slice ae es.length ce) es) (hf : SptsAt B w (.slice af fs.length cf) fs) (_hl : es.length ≤ 1000000) (_hlf : fs.length ≤ 1000000) (h1 : within n.stream 0 3 = true) (h2 : n.kind = 5) :
    Calls Try.prog 20 #[.agg #[.int .i64 n.kind, .int .i64 n.stream, .int .i64 n.epoch, .int .i64 n.view, .int .i64 n.frm, .int .i64 n.length, .slice ae es.length ce, .slice af fs.length cf]] w fun e w' => e = .returned (.bool (mayR n es fs)) ∧ Below w.heap.size w w' := by
  obtain ⟨w1, e1, b1, s1, h1⟩ := boxed w (recCells n (.slice ae es.length ce) (.slice af fs.length cf)) 25
  have E1 := Lib.hid (show w.alloc (.cells #[.int .i64 n.kind, .int .i64 n.stream, .int .i64 n.epoch, .int .i64 n.view, .int .i64 n.frm, .int .i64 n.length, .slice ae es.length ce, .slice af fs.length cf] 25) = w1 from e1)
  obtain ⟨c0, c1, c2, c3, c4, c5, c6, c7⟩ := rec_cells h1
  have HS := Lib.hid (stream_any n.stream)
  have HE := Lib.hid (he.below b1)
  have HF := Lib.hid (hf.below b1)
  have H1 := Lib.hid h1
  clear e1 h1 he hf
  have HM := Lib.hid (show mayR n es fs = kindGood n es fs by unfold mayR; rw [h1, h2]; simp)
  have HK := Lib.hid (show kindGood n es fs = (decide (n.stream = 0) && decide (es.length = 0) && feedGood fs && bareB n) by unfold kindGood; rw [if_neg (by rw [h2]; decide)]; rw [if_neg (by rw [h2]; decide)]; rw [if_neg (by rw [h2]; decide)]; rw [if_neg (by rw [h2]; decide)]; rw [if_pos h2])
  have d2 : (n.kind != 5) = false := by rw [h2]; rfl
  have k1 : (n.kind == 1) = false := by rw [h2]; rfl
  have k2 : (n.kind == 2) = false := by rw [h2]; rfl
  have k3 : (n.kind == 3) = false := by rw [h2]; rfl
  have k4 : (n.kind == 4) = false := by rw [h2]; rfl
  have k5 : (n.kind == 5) = true := by rw [h2]; rfl
  rw [h1] at HS
  have H2 := Lib.hid h2
  clear h1 h2
  cases hx0 : decide (n.stream = 0) with
  | false =>
    have X0 := Lib.hid hx0
    have z1 : (n.stream == 0) = false := by rw [beq_eq_false_iff_ne]; exact of_decide_eq_false hx0
    clear hx0
    obtain ⟨w2, e2, b2, s2, h2'⟩ := boxed w1 (recCells n (.slice ae es.length ce) (.slice af fs.length cf)) 25
    have E2 := Lib.hid (show (w1.alloc (.cells #[.int .i64 n.kind, .int .i64 n.stream, .int .i64 n.epoch, .int .i64 n.view, .int .i64 n.frm, .int .i64 n.length, .slice ae es.length ce, .slice af fs.length cf] 25)).drew = w2.drew by rw [← e2]; rfl)
    rw [s1] at h2'
    have o1 : w2.drew.heap[w.heap.size]? = some (.cells (recCells n (.slice ae es.length ce) (.slice af fs.length cf)) 25 (0, 0)) := (b2.block _ (by omega)).trans H1.out
    have o2 : w2.drew.heap[w.heap.size + 1]? = some (.cells (recCells n (.slice ae es.length ce) (.slice af fs.length cf)) 25 (0, 0)) := h2'
    have B2 : Below w.heap.size w w2.drew := (b1.trans (b2.mono b1.size)).drew
    have S2 : w2.drew.heap.size = w.heap.size + 2 := by show w2.heap.size = _; omega
    have B13 : Below w1.heap.size w1 w2.drew := b2.drew
    clear e2 h2'
    generalize w2.drew = w3 at *
    obtain ⟨p0, p1, p2, p3, p4, p5, p6, p7⟩ := rec_cells o1
    obtain ⟨q0, q1, q2, q3, q4, q5, q6, q7⟩ := rec_cells o2
    have B4 := B2
    have S4 := S2
    have HE4 := Lib.hid (HE.out.below B13)
    have HF4 := Lib.hid (HF.out.below B13)
    have o5 := o1
    have o4 := o2
    clear o1 o2
    go_enter Try.func20, Try.ntmps20
    go_wp2_with fail
    rw [E1.out]
    refine (HS.out _).mono ?_
    rintro e w2 ⟨rfl, rfl⟩
    go_wp2_with fail
    go_region
    rw [E2.out]
    clear c0 c1 c2 c3 c4 c5 c6 c7
    go_wp2
    go_ret
    exact ⟨ret_bool (by rw [HM.out, HK.out, X0.out]; simp), B4⟩
  | true =>
    cases hx1 : decide (es.length = 0) with
    | false =>
      have X0 := Lib.hid hx0
      have z1 : (n.stream == 0) = true := by rw [of_decide_eq_true hx0]; rfl
      clear hx0
      have X1 := Lib.hid hx1
      have z0 : ((es.length : Int) == 0) = false := by rw [beq_eq_false_iff_ne]; have := of_decide_eq_false hx1; omega
      clear hx1
      obtain ⟨w2, e2, b2, s2, h2'⟩ := boxed w1 (recCells n (.slice ae es.length ce) (.slice af fs.length cf)) 25
      have E2 := Lib.hid (show (w1.alloc (.cells #[.int .i64 n.kind, .int .i64 n.stream, .int .i64 n.epoch, .int .i64 n.view, .int .i64 n.frm, .int .i64 n.length, .slice ae es.length ce, .slice af fs.length cf] 25)).drew = w2.drew by rw [← e2]; rfl)
      rw [s1] at h2'
      have o1 : w2.drew.heap[w.heap.size]? = some (.cells (recCells n (.slice ae es.length ce) (.slice af fs.length cf)) 25 (0, 0)) := (b2.block _ (by omega)).trans H1.out
      have o2 : w2.drew.heap[w.heap.size + 1]? = some (.cells (recCells n (.slice ae es.length ce) (.slice af fs.length cf)) 25 (0, 0)) := h2'
      have B2 : Below w.heap.size w w2.drew := (b1.trans (b2.mono b1.size)).drew
      have S2 : w2.drew.heap.size = w.heap.size + 2 := by show w2.heap.size = _; omega
      have B13 : Below w1.heap.size w1 w2.drew := b2.drew
      clear e2 h2'
      generalize w2.drew = w3 at *
      obtain ⟨p0, p1, p2, p3, p4, p5, p6, p7⟩ := rec_cells o1
      obtain ⟨q0, q1, q2, q3, q4, q5, q6, q7⟩ := rec_cells o2
      have B4 := B2
      have S4 := S2
      have HE4 := Lib.hid (HE.out.below B13)
      have HF4 := Lib.hid (HF.out.below B13)
      have o5 := o1
      have o4 := o2
      clear o1 o2
      go_enter Try.func20, Try.ntmps20
      go_wp2_with fail
      rw [E1.out]
      refine (HS.out _).mono ?_
      rintro e w2 ⟨rfl, rfl⟩
      go_wp2_with fail
      go_region
      rw [E2.out]
      clear c0 c1 c2 c3 c4 c5 c6 c7
      go_wp2
      go_ret
      exact ⟨ret_bool (by rw [HM.out, HK.out, X0.out, X1.out]; simp), B4⟩
    | true =>
      cases hx2 : feedGood fs with
      | false =>
        have X0 := Lib.hid hx0
        have z1 : (n.stream == 0) = true := by rw [of_decide_eq_true hx0]; rfl
        clear hx0
        have X1 := Lib.hid hx1
        have z0 : ((es.length : Int) == 0) = true := by rw [of_decide_eq_true hx1]; rfl
        clear hx1
        have X2 := Lib.hid hx2
        clear hx2
        obtain ⟨w2, e2, b2, s2, h2'⟩ := boxed w1 (recCells n (.slice ae es.length ce) (.slice af fs.length cf)) 25
        have E2 := Lib.hid (show (w1.alloc (.cells #[.int .i64 n.kind, .int .i64 n.stream, .int .i64 n.epoch, .int .i64 n.view, .int .i64 n.frm, .int .i64 n.length, .slice ae es.length ce, .slice af fs.length cf] 25)).drew = w2.drew by rw [← e2]; rfl)
        rw [s1] at h2'
        have o1 : w2.drew.heap[w.heap.size]? = some (.cells (recCells n (.slice ae es.length ce) (.slice af fs.length cf)) 25 (0, 0)) := (b2.block _ (by omega)).trans H1.out
        have o2 : w2.drew.heap[w.heap.size + 1]? = some (.cells (recCells n (.slice ae es.length ce) (.slice af fs.length cf)) 25 (0, 0)) := h2'
        have B2 : Below w.heap.size w w2.drew := (b1.trans (b2.mono b1.size)).drew
        have S2 : w2.drew.heap.size = w.heap.size + 2 := by show w2.heap.size = _; omega
        have B13 : Below w1.heap.size w1 w2.drew := b2.drew
        clear e2 h2'
        generalize w2.drew = w3 at *
        obtain ⟨p0, p1, p2, p3, p4, p5, p6, p7⟩ := rec_cells o1
        obtain ⟨q0, q1, q2, q3, q4, q5, q6, q7⟩ := rec_cells o2
        have B4 := B2
        have S4 := S2
        have HE4 := Lib.hid (HE.out.below B13)
        have HF4 := Lib.hid (HF.out.below B13)
        have o5 := o1
        have o4 := o2
        clear o1 o2
        go_enter Try.func20, Try.ntmps20
        go_wp2_with fail
        rw [E1.out]
        refine (HS.out _).mono ?_
        rintro e w2 ⟨rfl, rfl⟩
        go_wp2_with fail
        go_region
        rw [E2.out]
        clear c0 c1 c2 c3 c4 c5 c6 c7
        go_wp2_with fail
        refine (feed_any HF4.out _hlf).mono ?_
        rw [X2.out]
        rintro e w5 ⟨rfl, b5⟩
        clear p0 p1 p2 p3 p4 p5 p6 p7 q0 q1 q2 q3 q4 q5 q6 q7
        have r5 := (b5.block _ (by omega)).trans o5
        have r4 := (b5.block _ (by omega)).trans o4
        obtain ⟨p0, p1, p2, p3, p4, p5, p6, p7⟩ := rec_cells r5
        obtain ⟨q0, q1, q2, q3, q4, q5, q6, q7⟩ := rec_cells r4
        have B5 := B4.trans (b5.mono (by omega))
        go_wp2
        go_ret
        exact ⟨ret_bool (by rw [HM.out, HK.out, X0.out, X1.out, X2.out]; simp), B5⟩
      | true =>
        have X0 := Lib.hid hx0
        have z1 : (n.stream == 0) = true := by rw [of_decide_eq_true hx0]; rfl
        clear hx0
        have X1 := Lib.hid hx1
        have z0 : ((es.length : Int) == 0) = true := by rw [of_decide_eq_true hx1]; rfl
        clear hx1
        have X2 := Lib.hid hx2
        clear hx2
        obtain ⟨w2, e2, b2, s2, h2'⟩ := boxed w1 (recCells n (.slice ae es.length ce) (.slice af fs.length cf)) 25
        have E2 := Lib.hid (show (w1.alloc (.cells #[.int .i64 n.kind, .int .i64 n.stream, .int .i64 n.epoch, .int .i64 n.view, .int .i64 n.frm, .int .i64 n.length, .slice ae es.length ce, .slice af fs.length cf] 25)).drew = w2.drew by rw [← e2]; rfl)
        rw [s1] at h2'
        have o1 : w2.drew.heap[w.heap.size]? = some (.cells (recCells n (.slice ae es.length ce) (.slice af fs.length cf)) 25 (0, 0)) := (b2.block _ (by omega)).trans H1.out
        have o2 : w2.drew.heap[w.heap.size + 1]? = some (.cells (recCells n (.slice ae es.length ce) (.slice af fs.length cf)) 25 (0, 0)) := h2'
        have B2 : Below w.heap.size w w2.drew := (b1.trans (b2.mono b1.size)).drew
        have S2 : w2.drew.heap.size = w.heap.size + 2 := by show w2.heap.size = _; omega
        have B13 : Below w1.heap.size w1 w2.drew := b2.drew
        clear e2 h2'
        generalize w2.drew = w3 at *
        obtain ⟨p0, p1, p2, p3, p4, p5, p6, p7⟩ := rec_cells o1
        obtain ⟨q0, q1, q2, q3, q4, q5, q6, q7⟩ := rec_cells o2
        have B4 := B2
        have S4 := S2
        have HE4 := Lib.hid (HE.out.below B13)
        have HF4 := Lib.hid (HF.out.below B13)
        have o5 := o1
        have o4 := o2
        clear o1 o2
        go_enter Try.func20, Try.ntmps20
        go_wp2_with fail
        rw [E1.out]
        refine (HS.out _).mono ?_
        rintro e w2 ⟨rfl, rfl⟩
        go_wp2_with fail
        go_region
        rw [E2.out]
        clear c0 c1 c2 c3 c4 c5 c6 c7
        go_wp2_with fail
        refine (feed_any HF4.out _hlf).mono ?_
        rw [X2.out]
        rintro e w5 ⟨rfl, b5⟩
        clear p0 p1 p2 p3 p4 p5 p6 p7 q0 q1 q2 q3 q4 q5 q6 q7
        have r5 := (b5.block _ (by omega)).trans o5
        have r4 := (b5.block _ (by omega)).trans o4
        obtain ⟨p0, p1, p2, p3, p4, p5, p6, p7⟩ := rec_cells r5
        obtain ⟨q0, q1, q2, q3, q4, q5, q6, q7⟩ := rec_cells r4
        have B5 := B4.trans (b5.mono (by omega))
        go_wp2_with fail
        refine (bare_any n ae af es.length ce fs.length cf _).mono ?_
        rintro e w6 ⟨rfl, b6⟩
        go_wp2
        go_ret
        exact ⟨ret_bool (by rw [HM.out, HK.out, X0.out, X1.out, X2.out]; simp), B5.trans (b6.mono B5.size)⟩
set_option maxRecDepth 100000 in
set_option maxHeartbeats 8000000 in
theorem may_ko {B : Nat} {w : World} (n : RNum) {ae af : Option Addr} {ce cf : Nat} {es : List Ent} {fs : List Spt} (he : EntsAt B w (.slice ae es.length ce) es) (hf : SptsAt B w (.slice af fs.length cf) fs) (_hl : es.length ≤ 1000000) (_hlf : fs.length ≤ 1000000) (h1 : within n.stream 0 3 = true) (g1 : ¬ n.kind = 1) (g2 : ¬ n.kind = 2) (g3 : ¬ n.kind = 3) (g4 : ¬ n.kind = 4) (g5 : ¬ n.kind = 5) (h3 : fs.length = 0) :
    Calls Try.prog 20 #[.agg #[.int .i64 n.kind, .int .i64 n.stream, .int .i64 n.epoch, .int .i64 n.view, .int .i64 n.frm, .int .i64 n.length, .slice ae es.length ce, .slice af fs.length cf]] w fun e w' => e = .returned (.bool (mayR n es fs)) ∧ Below w.heap.size w w' := by
  obtain ⟨w1, e1, b1, s1, h1⟩ := boxed w (recCells n (.slice ae es.length ce) (.slice af fs.length cf)) 25
  have E1 := Lib.hid (show w.alloc (.cells #[.int .i64 n.kind, .int .i64 n.stream, .int .i64 n.epoch, .int .i64 n.view, .int .i64 n.frm, .int .i64 n.length, .slice ae es.length ce, .slice af fs.length cf] 25) = w1 from e1)
  obtain ⟨c0, c1, c2, c3, c4, c5, c6, c7⟩ := rec_cells h1
  have HS := Lib.hid (stream_any n.stream)
  have HE := Lib.hid (he.below b1)
  have HF := Lib.hid (hf.below b1)
  have H1 := Lib.hid h1
  clear e1 h1 he hf
  have HM := Lib.hid (show mayR n es fs = false by unfold mayR kindGood; rw [if_neg (g1), if_neg g2, if_neg g3, if_neg g4, if_neg g5]; simp)
  have d2 : (n.kind != 5) = true := by rw [bne_iff_ne]; exact g5
  have k1 : (n.kind == 1) = false := by rw [beq_eq_false_iff_ne]; exact g1
  have k2 : (n.kind == 2) = false := by rw [beq_eq_false_iff_ne]; exact g2
  have k3 : (n.kind == 3) = false := by rw [beq_eq_false_iff_ne]; exact g3
  have k4 : (n.kind == 4) = false := by rw [beq_eq_false_iff_ne]; exact g4
  have k5 : (n.kind == 5) = false := by rw [beq_eq_false_iff_ne]; exact g5
  have d3 : decide ((0 : Int) < (fs.length : Int)) = false := by rw [h3]; rfl
  have d3b : decide (0 < fs.length) = false := by rw [h3]; rfl
  rw [h1] at HS
  have H3 := Lib.hid h3
  clear h1 g1 g2 g3 g4 g5 h3
  obtain ⟨w2, e2, b2, s2, h2'⟩ := boxed w1 (recCells n (.slice ae es.length ce) (.slice af fs.length cf)) 25
  have E2 := Lib.hid (show (w1.alloc (.cells #[.int .i64 n.kind, .int .i64 n.stream, .int .i64 n.epoch, .int .i64 n.view, .int .i64 n.frm, .int .i64 n.length, .slice ae es.length ce, .slice af fs.length cf] 25)).drew = w2.drew by rw [← e2]; rfl)
  rw [s1] at h2'
  have o1 : w2.drew.heap[w.heap.size]? = some (.cells (recCells n (.slice ae es.length ce) (.slice af fs.length cf)) 25 (0, 0)) := (b2.block _ (by omega)).trans H1.out
  have o2 : w2.drew.heap[w.heap.size + 1]? = some (.cells (recCells n (.slice ae es.length ce) (.slice af fs.length cf)) 25 (0, 0)) := h2'
  have B2 : Below w.heap.size w w2.drew := (b1.trans (b2.mono b1.size)).drew
  have S2 : w2.drew.heap.size = w.heap.size + 2 := by show w2.heap.size = _; omega
  have B13 : Below w1.heap.size w1 w2.drew := b2.drew
  clear e2 h2'
  generalize w2.drew = w3 at *
  obtain ⟨p0, p1, p2, p3, p4, p5, p6, p7⟩ := rec_cells o1
  go_enter Try.func20, Try.ntmps20
  go_wp2_with fail
  rw [E1.out]
  refine (HS.out _).mono ?_
  rintro e w2 ⟨rfl, rfl⟩
  go_wp2_with fail
  go_region
  rw [E2.out]
  clear c0 c1 c2 c3 c4 c5 c6 c7
  go_wp2
  go_ret
  exact ⟨ret_bool (by rw [HM.out]), B2⟩

theorem may_any {B : Nat} {w : World} (n : RNum) {ae af : Option Addr} {ce cf : Nat} {es : List Ent} {fs : List Spt} (he : EntsAt B w (.slice ae es.length ce) es) (hf : SptsAt B w (.slice af fs.length cf) fs) (hl : es.length ≤ 1000000) (hlf : fs.length ≤ 1000000) :
    Calls Try.prog 20 #[.agg #[.int .i64 n.kind, .int .i64 n.stream, .int .i64 n.epoch, .int .i64 n.view, .int .i64 n.frm, .int .i64 n.length, .slice ae es.length ce, .slice af fs.length cf]] w fun e w' => e = .returned (.bool (mayR n es fs)) ∧ Below w.heap.size w w' := by
  cases h1 : within n.stream 0 3 with
  | false => exact may_bad1 n he hf hl hlf h1
  | true =>
    by_cases g5 : n.kind = 5
    · exact may_k5 n he hf hl hlf h1 g5
    · by_cases h3 : fs.length = 0
      · by_cases g1 : n.kind = 1
        · exact may_k1 n he hf hl hlf h1 g1 h3
        · by_cases g2 : n.kind = 2
          · exact may_k2 n he hf hl hlf h1 g2 h3
          · by_cases g3 : n.kind = 3
            · exact may_k3 n he hf hl hlf h1 g3 h3
            · by_cases g4 : n.kind = 4
              · exact may_k4 n he hf hl hlf h1 g4 h3
              · exact may_ko n he hf hl hlf h1 g1 g2 g3 g4 g5 h3
      · exact may_bad2 n he hf hl hlf h1 g5 (by omega)
end Go.Proofs.Ytalilifegclelaa
