/- Walk of layer 9: OrdersField. -/
import Derived.Test.YtcooaagacdfbiaaC9i
namespace Go.Proofs.Ytcooaagacdfbiaa
open Go.RowKit

theorem mayB_set {o : Ord} (h : mayB o = true) (k : Nat) (hk : k < 5) (n : Int) : mayB (o.set k n) = inField k n := by
  have h0 := mayB_fld h 0 (by decide)
  have h1 := mayB_fld h 1 (by decide)
  have h2 := mayB_fld h 2 (by decide)
  have h3 := mayB_fld h 3 (by decide)
  have h4 := mayB_fld h 4 (by decide)
  simp only [Ord.fld] at h0 h1 h2 h3 h4
  match k, hk with
  | 0, _ => simp [mayB, Ord.set, h1, h2, h3, h4]
  | 1, _ => simp [mayB, Ord.set, h0, h2, h3, h4]
  | 2, _ => simp [mayB, Ord.set, h0, h1, h3, h4]
  | 3, _ => simp [mayB, Ord.set, h0, h1, h2, h4]
  | 4, _ => simp [mayB, Ord.set, h0, h1, h2, h3]

set_option maxRecDepth 100000 in
set_option maxHeartbeats 4000000 in
theorem field_no (o : Ord) (hm : mayB o = false) (c n : Int) (w : World) :
    Calls Try.prog 8 #[.agg #[.int .i64 o.id, .int .i64 o.stream, .int .i64 o.expect, .int .i64 o.kind, .int .i64 o.arg], .int .u8 c, .int .i64 n] w fun e w' => e = .returned (.bool true) ∧ Below w.heap.size w w' := by
  obtain ⟨w1, e1, b1, s1, h1⟩ := boxed w o 23
  have E1 := Lib.hid e1
  have X2 := Lib.hid (check_no hm)
  obtain ⟨c0, c1, c2, c3, c4⟩ := ord_cells h1
  clear e1 h1 hm
  go_enter Try.func8, Try.ntmps8
  go_wp2_with fail
  rw [E1.out]
  refine (X2.out _).mono ?_
  rintro e w2 ⟨rfl, b2⟩
  have B2 := b1.trans (b2.mono b1.size)
  go_wp2_with fail
  refine (works_any _).mono ?_
  rintro e w3 ⟨rfl, b3⟩
  go_wp2
  go_ret
  exact ⟨rfl, B2.trans (b3.mono B2.size)⟩

set_option maxRecDepth 100000 in
set_option maxHeartbeats 4000000 in
theorem field_yes (o : Ord) (hm : mayB o = true) (c n : Int) (hc : 0 ≤ c) (w : World) :
    Calls Try.prog 8 #[.agg #[.int .i64 o.id, .int .i64 o.stream, .int .i64 o.expect, .int .i64 o.kind, .int .i64 o.arg], .int .u8 c, .int .i64 n] w fun e w' => e = .returned (.bool true) ∧ Below w.heap.size w w' := by
  obtain ⟨w1, e1, b1, s1, h1⟩ := boxed w o 23
  have E1 := Lib.hid e1
  have H1 := Lib.hid h1
  have X2 := Lib.hid (check_yes hm)
  have HM := Lib.hid hm
  obtain ⟨c0, c1, c2, c3, c4⟩ := ord_cells h1
  clear e1 h1 hm
  go_enter Try.func8, Try.ntmps8
  go_wp2_with fail
  rw [E1.out]
  refine (X2.out _).mono ?_
  rintro e w2 ⟨rfl, b2⟩
  clear c0 c1 c2 c3 c4
  have B2 := b1.trans (b2.mono b1.size)
  have s2 := b2.size
  have h2 := (b2.block _ (by omega)).trans H1.out
  obtain ⟨c0, c1, c2, c3, c4⟩ := ord_cells h2
  have f0 : ∀ k, w2.frozen? ⟨w.heap.size, k, none⟩ = false := fun k => by simp [World.frozen?, h2]
  have g0 := f0 0
  have g1 := f0 1
  have g2 := f0 2
  have g3 := f0 3
  have g4 := f0 4
  clear h2 f0
  go_wp2_with fail
  · have Y := Lib.hid (mayB_set HM.out 0 (by decide) n)
    by_cases q1 : 1 ≤ n
    · by_cases q2 : n ≤ 2147483647
      · have HV := Lib.hid (show inField 0 n = true by unfold inField; rw [show decide (least 0 ≤ n) = true from decide_eq_true q1, show decide (n ≤ most 0) = true from decide_eq_true q2]; rfl)
        refine (check_yes (o := o.set 0 n) (Y.out.trans HV.out) _).mono ?_
        rintro e w3 ⟨rfl, b3⟩
        have B4 := (B2.setCell (p := ⟨w.heap.size, 0, none⟩) (Nat.le_refl _) (.int .i64 n)).trans (b3.mono (by simp; omega))
        go_wp2_with fail
        refine (works_any _).mono ?_
        rintro e w4 ⟨rfl, b4⟩
        go_wp2
        go_ret
        exact ⟨rfl, B4.trans (b4.mono B4.size)⟩
      · have d2 : decide (n ≤ 2147483647) = false := decide_eq_false q2
        have HV := Lib.hid (show inField 0 n = false by unfold inField; rw [show decide (n ≤ most 0) = false from decide_eq_false q2]; simp)
        refine (check_no (o := o.set 0 n) (Y.out.trans HV.out) _).mono ?_
        rintro e w3 ⟨rfl, b3⟩
        have B4 := (B2.setCell (p := ⟨w.heap.size, 0, none⟩) (Nat.le_refl _) (.int .i64 n)).trans (b3.mono (by simp; omega))
        go_wp2_with fail
        refine (works_any _).mono ?_
        rintro e w4 ⟨rfl, b4⟩
        go_wp2
        go_ret
        exact ⟨rfl, B4.trans (b4.mono B4.size)⟩
    · have HV := Lib.hid (show inField 0 n = false by unfold inField; rw [show decide (least 0 ≤ n) = false from decide_eq_false q1]; rfl)
      refine (check_no (o := o.set 0 n) (Y.out.trans HV.out) _).mono ?_
      rintro e w3 ⟨rfl, b3⟩
      have B4 := (B2.setCell (p := ⟨w.heap.size, 0, none⟩) (Nat.le_refl _) (.int .i64 n)).trans (b3.mono (by simp; omega))
      go_wp2_with fail
      refine (works_any _).mono ?_
      rintro e w4 ⟨rfl, b4⟩
      go_wp2
      go_ret
      exact ⟨rfl, B4.trans (b4.mono B4.size)⟩
  · have Y := Lib.hid (mayB_set HM.out 1 (by decide) n)
    by_cases q1 : 0 ≤ n
    · by_cases q2 : n ≤ 3
      · have HV := Lib.hid (show inField 1 n = true by unfold inField; rw [show decide (least 1 ≤ n) = true from decide_eq_true q1, show decide (n ≤ most 1) = true from decide_eq_true q2]; rfl)
        refine (check_yes (o := o.set 1 n) (Y.out.trans HV.out) _).mono ?_
        rintro e w3 ⟨rfl, b3⟩
        have B4 := (B2.setCell (p := ⟨w.heap.size, 1, none⟩) (Nat.le_refl _) (.int .i64 n)).trans (b3.mono (by simp; omega))
        go_wp2_with fail
        refine (works_any _).mono ?_
        rintro e w4 ⟨rfl, b4⟩
        go_wp2
        go_ret
        exact ⟨rfl, B4.trans (b4.mono B4.size)⟩
      · have d2 : decide (n ≤ 3) = false := decide_eq_false q2
        have HV := Lib.hid (show inField 1 n = false by unfold inField; rw [show decide (n ≤ most 1) = false from decide_eq_false q2]; simp)
        refine (check_no (o := o.set 1 n) (Y.out.trans HV.out) _).mono ?_
        rintro e w3 ⟨rfl, b3⟩
        have B4 := (B2.setCell (p := ⟨w.heap.size, 1, none⟩) (Nat.le_refl _) (.int .i64 n)).trans (b3.mono (by simp; omega))
        go_wp2_with fail
        refine (works_any _).mono ?_
        rintro e w4 ⟨rfl, b4⟩
        go_wp2
        go_ret
        exact ⟨rfl, B4.trans (b4.mono B4.size)⟩
    · have HV := Lib.hid (show inField 1 n = false by unfold inField; rw [show decide (least 1 ≤ n) = false from decide_eq_false q1]; rfl)
      refine (check_no (o := o.set 1 n) (Y.out.trans HV.out) _).mono ?_
      rintro e w3 ⟨rfl, b3⟩
      have B4 := (B2.setCell (p := ⟨w.heap.size, 1, none⟩) (Nat.le_refl _) (.int .i64 n)).trans (b3.mono (by simp; omega))
      go_wp2_with fail
      refine (works_any _).mono ?_
      rintro e w4 ⟨rfl, b4⟩
      go_wp2
      go_ret
      exact ⟨rfl, B4.trans (b4.mono B4.size)⟩
  · have Y := Lib.hid (mayB_set HM.out 2 (by decide) n)
    by_cases q1 : (-1) ≤ n
    · by_cases q2 : n ≤ 2147483647
      · have HV := Lib.hid (show inField 2 n = true by unfold inField; rw [show decide (least 2 ≤ n) = true from decide_eq_true q1, show decide (n ≤ most 2) = true from decide_eq_true q2]; rfl)
        refine (check_yes (o := o.set 2 n) (Y.out.trans HV.out) _).mono ?_
        rintro e w3 ⟨rfl, b3⟩
        have B4 := (B2.setCell (p := ⟨w.heap.size, 2, none⟩) (Nat.le_refl _) (.int .i64 n)).trans (b3.mono (by simp; omega))
        go_wp2_with fail
        refine (works_any _).mono ?_
        rintro e w4 ⟨rfl, b4⟩
        go_wp2
        go_ret
        exact ⟨rfl, B4.trans (b4.mono B4.size)⟩
      · have d2 : decide (n ≤ 2147483647) = false := decide_eq_false q2
        have HV := Lib.hid (show inField 2 n = false by unfold inField; rw [show decide (n ≤ most 2) = false from decide_eq_false q2]; simp)
        refine (check_no (o := o.set 2 n) (Y.out.trans HV.out) _).mono ?_
        rintro e w3 ⟨rfl, b3⟩
        have B4 := (B2.setCell (p := ⟨w.heap.size, 2, none⟩) (Nat.le_refl _) (.int .i64 n)).trans (b3.mono (by simp; omega))
        go_wp2_with fail
        refine (works_any _).mono ?_
        rintro e w4 ⟨rfl, b4⟩
        go_wp2
        go_ret
        exact ⟨rfl, B4.trans (b4.mono B4.size)⟩
    · have HV := Lib.hid (show inField 2 n = false by unfold inField; rw [show decide (least 2 ≤ n) = false from decide_eq_false q1]; rfl)
      refine (check_no (o := o.set 2 n) (Y.out.trans HV.out) _).mono ?_
      rintro e w3 ⟨rfl, b3⟩
      have B4 := (B2.setCell (p := ⟨w.heap.size, 2, none⟩) (Nat.le_refl _) (.int .i64 n)).trans (b3.mono (by simp; omega))
      go_wp2_with fail
      refine (works_any _).mono ?_
      rintro e w4 ⟨rfl, b4⟩
      go_wp2
      go_ret
      exact ⟨rfl, B4.trans (b4.mono B4.size)⟩
  · have Y := Lib.hid (mayB_set HM.out 3 (by decide) n)
    by_cases q1 : 1 ≤ n
    · by_cases q2 : n ≤ 4
      · have HV := Lib.hid (show inField 3 n = true by unfold inField; rw [show decide (least 3 ≤ n) = true from decide_eq_true q1, show decide (n ≤ most 3) = true from decide_eq_true q2]; rfl)
        refine (check_yes (o := o.set 3 n) (Y.out.trans HV.out) _).mono ?_
        rintro e w3 ⟨rfl, b3⟩
        have B4 := (B2.setCell (p := ⟨w.heap.size, 3, none⟩) (Nat.le_refl _) (.int .i64 n)).trans (b3.mono (by simp; omega))
        go_wp2_with fail
        refine (works_any _).mono ?_
        rintro e w4 ⟨rfl, b4⟩
        go_wp2
        go_ret
        exact ⟨rfl, B4.trans (b4.mono B4.size)⟩
      · have d2 : decide (n ≤ 4) = false := decide_eq_false q2
        have HV := Lib.hid (show inField 3 n = false by unfold inField; rw [show decide (n ≤ most 3) = false from decide_eq_false q2]; simp)
        refine (check_no (o := o.set 3 n) (Y.out.trans HV.out) _).mono ?_
        rintro e w3 ⟨rfl, b3⟩
        have B4 := (B2.setCell (p := ⟨w.heap.size, 3, none⟩) (Nat.le_refl _) (.int .i64 n)).trans (b3.mono (by simp; omega))
        go_wp2_with fail
        refine (works_any _).mono ?_
        rintro e w4 ⟨rfl, b4⟩
        go_wp2
        go_ret
        exact ⟨rfl, B4.trans (b4.mono B4.size)⟩
    · have HV := Lib.hid (show inField 3 n = false by unfold inField; rw [show decide (least 3 ≤ n) = false from decide_eq_false q1]; rfl)
      refine (check_no (o := o.set 3 n) (Y.out.trans HV.out) _).mono ?_
      rintro e w3 ⟨rfl, b3⟩
      have B4 := (B2.setCell (p := ⟨w.heap.size, 3, none⟩) (Nat.le_refl _) (.int .i64 n)).trans (b3.mono (by simp; omega))
      go_wp2_with fail
      refine (works_any _).mono ?_
      rintro e w4 ⟨rfl, b4⟩
      go_wp2
      go_ret
      exact ⟨rfl, B4.trans (b4.mono B4.size)⟩
  · have Y := Lib.hid (mayB_set HM.out 4 (by decide) n)
    by_cases q1 : (-1048576) ≤ n
    · by_cases q2 : n ≤ 1048576
      · have HV := Lib.hid (show inField 4 n = true by unfold inField; rw [show decide (least 4 ≤ n) = true from decide_eq_true q1, show decide (n ≤ most 4) = true from decide_eq_true q2]; rfl)
        refine (check_yes (o := o.set 4 n) (Y.out.trans HV.out) _).mono ?_
        rintro e w3 ⟨rfl, b3⟩
        have B4 := (B2.setCell (p := ⟨w.heap.size, 4, none⟩) (Nat.le_refl _) (.int .i64 n)).trans (b3.mono (by simp; omega))
        go_wp2_with fail
        refine (works_any _).mono ?_
        rintro e w4 ⟨rfl, b4⟩
        go_wp2
        go_ret
        exact ⟨rfl, B4.trans (b4.mono B4.size)⟩
      · have d2 : decide (n ≤ 1048576) = false := decide_eq_false q2
        have HV := Lib.hid (show inField 4 n = false by unfold inField; rw [show decide (n ≤ most 4) = false from decide_eq_false q2]; simp)
        refine (check_no (o := o.set 4 n) (Y.out.trans HV.out) _).mono ?_
        rintro e w3 ⟨rfl, b3⟩
        have B4 := (B2.setCell (p := ⟨w.heap.size, 4, none⟩) (Nat.le_refl _) (.int .i64 n)).trans (b3.mono (by simp; omega))
        go_wp2_with fail
        refine (works_any _).mono ?_
        rintro e w4 ⟨rfl, b4⟩
        go_wp2
        go_ret
        exact ⟨rfl, B4.trans (b4.mono B4.size)⟩
    · have HV := Lib.hid (show inField 4 n = false by unfold inField; rw [show decide (least 4 ≤ n) = false from decide_eq_false q1]; rfl)
      refine (check_no (o := o.set 4 n) (Y.out.trans HV.out) _).mono ?_
      rintro e w3 ⟨rfl, b3⟩
      have B4 := (B2.setCell (p := ⟨w.heap.size, 4, none⟩) (Nat.le_refl _) (.int .i64 n)).trans (b3.mono (by simp; omega))
      go_wp2_with fail
      refine (works_any _).mono ?_
      rintro e w4 ⟨rfl, b4⟩
      go_wp2
      go_ret
      exact ⟨rfl, B4.trans (b4.mono B4.size)⟩

theorem ordersField_walk (a b c d e x n : Int) (_ : (Lit.int .i64 a).wf = true) (_ : (Lit.int .i64 b).wf = true) (_ : (Lit.int .i64 c).wf = true) (_ : (Lit.int .i64 d).wf = true) (_ : (Lit.int .i64 e).wf = true) (hx : (Lit.int .u8 x).wf = true) (_ : (Lit.int .i64 n).wf = true) (w : World) :
    Calls Try.prog 8 #[.agg #[.int .i64 a, .int .i64 b, .int .i64 c, .int .i64 d, .int .i64 e], .int .u8 x, .int .i64 n] w fun e w' => e = .returned (.bool true) ∧ Below w.heap.size w w' := by
  have h0 : 0 ≤ x := by simp only [Lit.wf, Bool.and_eq_true, decide_eq_true_eq] at hx; exact hx.1
  cases hm : mayB ⟨a, b, c, d, e⟩ with
  | true => exact field_yes ⟨a, b, c, d, e⟩ hm x n h0 w
  | false => exact field_no ⟨a, b, c, d, e⟩ hm x n w
end Go.Proofs.Ytcooaagacdfbiaa
