/- The reference of layer 9: May, Check, Encode. -/
import Derived.Test.YtcooaagacdfbiaaC9c
namespace Go.Proofs.Ytcooaagacdfbiaa
open Go.RowKit

theorem ret_bool {b c : Bool} (h : b = c) : Ending.returned (.bool b) = .returned (.bool c) := by rw [h]
theorem mayB_eq (a b c d e : Int) : mayB ⟨a, b, c, d, e⟩ = (((((((((decide (1 ≤ a) && decide (a ≤ 2147483647)) && decide (0 ≤ b)) && decide (b < 4)) && decide (-1 ≤ c)) && decide (c ≤ 2147483647)) && decide (1 ≤ d)) && decide (d ≤ 4)) && decide (-1048576 ≤ e)) && decide (e ≤ 1048576)) := by
  have h : decide (b < 4) = decide (b ≤ 3) := by rw [decide_eq_decide]; omega
  rw [h]
  simp only [mayB, inField, least, most, Bool.and_assoc]

set_option maxRecDepth 100000 in
set_option maxHeartbeats 4000000 in
theorem may_any (a b c d e : Int) (w : World) :
    Calls Try.prog 19 #[.agg #[.int .i64 a, .int .i64 b, .int .i64 c, .int .i64 d, .int .i64 e]] w fun r w' => r = .returned (.bool (mayB ⟨a, b, c, d, e⟩)) ∧ Below w.heap.size w w' := by
  have HM := Lib.hid (mayB_eq a b c d e)
  have hb1 : Below w.heap.size w (w.alloc (.cells #[.int .i64 a, .int .i64 b, .int .i64 c, .int .i64 d, .int .i64 e] 23)) := (Below.refl _ _).alloc (Nat.le_refl _) _
  go_enter Try.func19, Try.ntmps19
  go_wp2
  all_goals
    go_ret
    exact ⟨ret_bool (by rw [HM.out]; rw [Bool.eq_iff_iff]; simp only [Bool.and_eq_true, decide_eq_true_eq, Bool.false_eq_true, false_iff]; omega), hb1⟩
theorem may_yes {o : Ord} (h : mayB o = true) (w : World) :
    Calls Try.prog 19 #[.agg #[.int .i64 o.id, .int .i64 o.stream, .int .i64 o.expect, .int .i64 o.kind, .int .i64 o.arg]] w fun e w' => e = .returned (.bool true) ∧ Below w.heap.size w w' := by
  have := may_any o.id o.stream o.expect o.kind o.arg w
  rw [show mayB ⟨o.id, o.stream, o.expect, o.kind, o.arg⟩ = true from h] at this; exact this
theorem may_no {o : Ord} (h : mayB o = false) (w : World) :
    Calls Try.prog 19 #[.agg #[.int .i64 o.id, .int .i64 o.stream, .int .i64 o.expect, .int .i64 o.kind, .int .i64 o.arg]] w fun e w' => e = .returned (.bool false) ∧ Below w.heap.size w w' := by
  have := may_any o.id o.stream o.expect o.kind o.arg w
  rw [show mayB ⟨o.id, o.stream, o.expect, o.kind, o.arg⟩ = false from h] at this; exact this

set_option maxRecDepth 100000 in
set_option maxHeartbeats 1000000 in
theorem refCheck_any (o : Ord) (w : World) :
    Calls Try.prog 12 #[.agg #[.int .i64 o.id, .int .i64 o.stream, .int .i64 o.expect, .int .i64 o.kind, .int .i64 o.arg]] w fun e w' => e = .returned (.int .i64 (errno (mayB o) 2)) ∧ Below w.heap.size w w' := by
  have hb1 : Below w.heap.size w (w.alloc (.cells #[.int .i64 o.id, .int .i64 o.stream, .int .i64 o.expect, .int .i64 o.kind, .int .i64 o.arg] 23)) := (Below.refl _ _).alloc (Nat.le_refl _) _
  cases hm : mayB o with
  | true =>
    have HC := Lib.hid (may_yes hm)
    clear hm
    go_enter Try.func12, Try.ntmps12
    go_wp2_with fail
    refine (HC.out _).mono ?_
    rintro e w2 ⟨rfl, hb2⟩
    go_wp2
    go_ret
    exact ⟨rfl, hb1.trans (hb2.mono hb1.size)⟩
  | false =>
    have HC := Lib.hid (may_no hm)
    clear hm
    go_enter Try.func12, Try.ntmps12
    go_wp2_with fail
    refine (HC.out _).mono ?_
    rintro e w2 ⟨rfl, hb2⟩
    go_wp2
    go_ret
    exact ⟨rfl, hb1.trans (hb2.mono hb1.size)⟩

set_option maxRecDepth 100000 in
set_option maxHeartbeats 2000000 in
theorem refEncode_no (o : Ord) (hm : mayB o = false) (w : World) :
    Calls Try.prog 10 #[.agg #[.int .i64 o.id, .int .i64 o.stream, .int .i64 o.expect, .int .i64 o.kind, .int .i64 o.arg]] w fun e w' => e = .returned (.tuple #[.string ⟨#[]⟩, .int .i64 2]) ∧ Below w.heap.size w w' := by
  have hb1 : Below w.heap.size w (w.alloc (.cells #[.int .i64 o.id, .int .i64 o.stream, .int .i64 o.expect, .int .i64 o.kind, .int .i64 o.arg] 23)) := (Below.refl _ _).alloc (Nat.le_refl _) _
  have HC := Lib.hid (may_no hm)
  clear hm
  go_enter Try.func10, Try.ntmps10
  go_wp2_with fail
  refine (HC.out _).mono ?_
  rintro e w2 ⟨rfl, hb2⟩
  go_wp2
  go_ret2
  exact ⟨rfl, hb1.trans (hb2.mono hb1.size)⟩

theorem put_size (a : Int) : (str (Marks.put a)).size ≤ 10 := by rw [str_size]; exact (Marks.put_len a).2

set_option maxRecDepth 100000 in
set_option maxHeartbeats 4000000 in
theorem refEncode_yes (o : Ord) (hm : mayB o = true) (w : World) :
    Calls Try.prog 10 #[.agg #[.int .i64 o.id, .int .i64 o.stream, .int .i64 o.expect, .int .i64 o.kind, .int .i64 o.arg]] w fun e w' => e = .returned (.tuple #[.string (str (ordB o)), .int .i64 0]) ∧ Below w.heap.size w w' := by
  obtain ⟨w1, hw1⟩ : ∃ w1, w.alloc (.cells #[.int .i64 o.id, .int .i64 o.stream, .int .i64 o.expect, .int .i64 o.kind, .int .i64 o.arg] 23) = w1 := ⟨_, rfl⟩
  have hb1 : Below w.heap.size w w1 := by rw [← hw1]; exact (Below.refl _ _).alloc (Nat.le_refl _) _
  have hs1 : w1.heap.size = w.heap.size + 1 := by rw [← hw1]; simp
  have hh1 : w1.heap[w.heap.size]? = some (.cells (ordCells o) 23 (0, 0)) := by rw [← hw1]; exact World.alloc_heap_new w _
  have HW1 := Lib.hid hw1
  have HC := Lib.hid (may_yes hm)
  have P0 := Lib.hid (refPut_any o.id (mayB_i64 hm 0 (by decide)).1 (mayB_i64 hm 0 (by decide)).2)
  have P1 := Lib.hid (refPut_any o.stream (mayB_i64 hm 1 (by decide)).1 (mayB_i64 hm 1 (by decide)).2)
  have P2 := Lib.hid (refPut_any o.expect (mayB_i64 hm 2 (by decide)).1 (mayB_i64 hm 2 (by decide)).2)
  have P3 := Lib.hid (refPut_any o.kind (mayB_i64 hm 3 (by decide)).1 (mayB_i64 hm 3 (by decide)).2)
  have P4 := Lib.hid (refPut_any o.arg (mayB_i64 hm 4 (by decide)).1 (mayB_i64 hm 4 (by decide)).2)
  have l0 := put_size o.id
  have l1 := put_size o.stream
  have l2 := put_size o.expect
  have l3 := put_size o.kind
  have l4 := put_size o.arg
  clear hm hw1
  go_enter Try.func10, Try.ntmps10
  go_wp2_with fail
  rw [HW1.out]
  refine (HC.out _).mono ?_
  rintro e w2 ⟨rfl, hb2⟩
  have hB2 := hb1.trans (hb2.mono hb1.size)
  have hs2 := hb2.size
  have hh2 : w2.heap[w.heap.size]? = some (.cells (ordCells o) 23 (0, 0)) := (hb2.block _ (by omega)).trans hh1
  have HH2 := Lib.hid hh2
  have c0 := ord_cell hh2 0 (by decide)
  have c1 := ord_cell hh2 1 (by decide)
  have c2 := ord_cell hh2 2 (by decide)
  have c3 := ord_cell hh2 3 (by decide)
  have c4 := ord_cell hh2 4 (by decide)
  simp only [Ord.fld] at c0 c1 c2 c3 c4
  clear hh1 hh2 HW1
  go_wp2_with fail
  have k0 := cell_regrown c0
  have k1 := cell_regrown c1
  have k2 := cell_regrown c2
  have k3 := cell_regrown c3
  have k4 := cell_regrown c4
  refine wp_region_quiet_below (by kernel_rfl) (by kernel_rfl) ?_
  go_big_quiet_step (fail)
  go_big_quiet_step (fail)
  go_big_quiet_step ((go_at_call 20; exact Calls.regrown_of (P0.out _)))
  go_big_quiet_step (fail)
  go_big_quiet_step (fail)
  go_big_quiet_step ((go_at_call 20; exact Calls.regrown_of (P1.out _)))
  go_big_quiet_step (fail)
  go_big_quiet_step (fail)
  go_big_quiet_step (fail)
  go_big_quiet_step ((go_at_call 20; exact Calls.regrown_of (P2.out _)))
  go_big_quiet_step (fail)
  go_big_quiet_step (fail)
  go_big_quiet_step (fail)
  go_big_quiet_step ((go_at_call 20; exact Calls.regrown_of (P3.out _)))
  go_big_quiet_step (fail)
  go_big_quiet_step (fail)
  go_big_quiet_step (fail)
  go_big_quiet_step ((go_at_call 20; exact Calls.regrown_of (P4.out _)))
  go_big_quiet_step (fail)
  go_big_quiet_step (fail)
  go_big_quiet_step (fail)
  refine wpQuiet_nil ?_
  intro _ hw'
  obtain ⟨⟨dq, osq⟩, hw''⟩ := hw'
  subst hw''
  have hb3 := below_regrown w2 dq osq
  clear k0 k1 k2 k3 k4
  generalize Sort.grow (redrawn w2 dq) osq = wq at *
  go_wp2
  go_ret2
  exact ⟨by simp only [str_append]; rfl, hB2.trans (hb3.mono hB2.size)⟩
end Go.Proofs.Ytcooaagacdfbiaa
