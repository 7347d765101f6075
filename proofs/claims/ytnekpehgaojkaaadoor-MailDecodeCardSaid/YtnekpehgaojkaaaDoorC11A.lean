/- The reference's parts: ref06.Sites, ref11.length, log, Has; the plain law of its May. (Printed by wip/src/XC11A.py.) -/
import Derived.Test.YtnekpehgaojkaaaDoorC11q
import Derived.Test.YtnekpehgaojkaaaDoorC11u
namespace Go.Proofs.YtnekpehgaojkaaaDoor
open Go.RowKit

theorem refSites_any (n : Int) (w : World) : Calls Tryd.prog 41 #[.int .i64 n] w fun e w' => e = .returned (.bool (within n 2 7)) ∧ w = w' := by
  have HM := Lib.hid (show within n 2 7 = (decide (2 ≤ n) && decide (n ≤ 7)) from rfl)
  go_enter Tryd.func41, Tryd.ntmps41
  go_wp2
  all_goals
    go_ret
    exact ⟨ret_bool (by rw [HM.out]; rw [Bool.eq_iff_iff]; simp only [Bool.and_eq_true, decide_eq_true_eq, Bool.false_eq_true, false_iff]; omega), rfl⟩
theorem refLength_any (n : Int) (w : World) : Calls Tryd.prog 45 #[.int .i64 n] w fun e w' => e = .returned (.bool (within n 0 64)) ∧ w = w' := by
  have HM := Lib.hid (show within n 0 64 = (decide (0 ≤ n) && decide (n ≤ 64)) from rfl)
  go_enter Tryd.func45, Tryd.ntmps45
  go_wp2
  all_goals
    go_ret
    exact ⟨ret_bool (by rw [HM.out]; rw [Bool.eq_iff_iff]; simp only [Bool.and_eq_true, decide_eq_true_eq, Bool.false_eq_true, false_iff]; omega), rfl⟩
/-- Which fields a kind has. -/
structure Bits where
  e : Bool
  v : Bool
  b : Bool
  l : Bool
  t : Bool
  n : Bool
  o : Bool
  a : Bool
def bitCells (b : Bits) : Array Value := #[.bool b.e, .bool b.v, .bool b.b, .bool b.l, .bool b.t, .bool b.n, .bool b.o, .bool b.a]
def bitsOf (k : Int) : Bits := if k = 1 then ⟨true, false, false, false, true, false, false, false⟩ else if k = 2 then ⟨true, true, false, true, true, true, false, false⟩ else if k = 3 then ⟨true, false, false, false, false, false, false, false⟩ else if k = 9 then ⟨true, false, false, false, false, false, false, false⟩ else if k = 10 then ⟨true, false, false, false, false, false, false, false⟩ else if k = 4 then ⟨true, false, true, true, true, true, false, false⟩ else if k = 5 then ⟨true, false, false, true, true, false, false, false⟩ else if k = 6 then ⟨true, false, false, true, false, false, false, false⟩ else if k = 7 then ⟨false, false, false, false, false, false, true, false⟩ else if k = 8 then ⟨false, false, false, false, false, false, false, true⟩ else ⟨false, false, false, false, false, false, false, false⟩
theorem res_cell1 {P : Program} {fn : Func} {tmps : Array Value} {w : World} {a : Nat} {t : TypeId} {p : Addr} {v : Value} (h : fn.results = #[.cell a t]) (ha : tmps.getD a undef = .pointer (some p)) (hl : (loadVar t p).run P w = .ok v w) :
    (results fn tmps).run P w = .ok v w := by
  unfold results
  rw [h]
  have ha' : tmps[a]?.getD undef = .pointer (some p) := by simpa using ha
  simp [ha', asAddr, hl]
set_option maxHeartbeats 2000000 in
theorem has_1  (w : World) : Calls Tryd.prog 42 #[.int .i64 1] w fun e w' => e = .returned (.agg (bitCells ⟨true, false, false, false, true, false, false, false⟩)) ∧ Below w.heap.size w w' := by
  go_enter Tryd.func42, Tryd.ntmps42
  go_wp2
  have hk := World.rangeAt_of_block (World.alloc_heap_new w (.cells (bitCells ⟨true, false, false, false, true, false, false, false⟩) 80)) 0 8
  have hr := run_loadVar_mid (P := Tryd.prog) _ w.heap.size 0 80 _ _ hk Tryd.underlying80 rfl (by kernel_rfl)
  exact bodyPost_ret (res_cell1 Tryd.results42 rfl hr) rfl ⟨rfl, (Below.refl _ _).alloc (Nat.le_refl _) _⟩
set_option maxHeartbeats 2000000 in
theorem has_2  (w : World) : Calls Tryd.prog 42 #[.int .i64 2] w fun e w' => e = .returned (.agg (bitCells ⟨true, true, false, true, true, true, false, false⟩)) ∧ Below w.heap.size w w' := by
  go_enter Tryd.func42, Tryd.ntmps42
  go_wp2
  have hk := World.rangeAt_of_block (World.alloc_heap_new w (.cells (bitCells ⟨true, true, false, true, true, true, false, false⟩) 80)) 0 8
  have hr := run_loadVar_mid (P := Tryd.prog) _ w.heap.size 0 80 _ _ hk Tryd.underlying80 rfl (by kernel_rfl)
  exact bodyPost_ret (res_cell1 Tryd.results42 rfl hr) rfl ⟨rfl, (Below.refl _ _).alloc (Nat.le_refl _) _⟩
set_option maxHeartbeats 2000000 in
theorem has_3  (w : World) : Calls Tryd.prog 42 #[.int .i64 3] w fun e w' => e = .returned (.agg (bitCells ⟨true, false, false, false, false, false, false, false⟩)) ∧ Below w.heap.size w w' := by
  go_enter Tryd.func42, Tryd.ntmps42
  go_wp2
  have hk := World.rangeAt_of_block (World.alloc_heap_new w (.cells (bitCells ⟨true, false, false, false, false, false, false, false⟩) 80)) 0 8
  have hr := run_loadVar_mid (P := Tryd.prog) _ w.heap.size 0 80 _ _ hk Tryd.underlying80 rfl (by kernel_rfl)
  exact bodyPost_ret (res_cell1 Tryd.results42 rfl hr) rfl ⟨rfl, (Below.refl _ _).alloc (Nat.le_refl _) _⟩
set_option maxHeartbeats 2000000 in
theorem has_9  (w : World) : Calls Tryd.prog 42 #[.int .i64 9] w fun e w' => e = .returned (.agg (bitCells ⟨true, false, false, false, false, false, false, false⟩)) ∧ Below w.heap.size w w' := by
  go_enter Tryd.func42, Tryd.ntmps42
  go_wp2
  have hk := World.rangeAt_of_block (World.alloc_heap_new w (.cells (bitCells ⟨true, false, false, false, false, false, false, false⟩) 80)) 0 8
  have hr := run_loadVar_mid (P := Tryd.prog) _ w.heap.size 0 80 _ _ hk Tryd.underlying80 rfl (by kernel_rfl)
  exact bodyPost_ret (res_cell1 Tryd.results42 rfl hr) rfl ⟨rfl, (Below.refl _ _).alloc (Nat.le_refl _) _⟩
set_option maxHeartbeats 2000000 in
theorem has_10  (w : World) : Calls Tryd.prog 42 #[.int .i64 10] w fun e w' => e = .returned (.agg (bitCells ⟨true, false, false, false, false, false, false, false⟩)) ∧ Below w.heap.size w w' := by
  go_enter Tryd.func42, Tryd.ntmps42
  go_wp2
  have hk := World.rangeAt_of_block (World.alloc_heap_new w (.cells (bitCells ⟨true, false, false, false, false, false, false, false⟩) 80)) 0 8
  have hr := run_loadVar_mid (P := Tryd.prog) _ w.heap.size 0 80 _ _ hk Tryd.underlying80 rfl (by kernel_rfl)
  exact bodyPost_ret (res_cell1 Tryd.results42 rfl hr) rfl ⟨rfl, (Below.refl _ _).alloc (Nat.le_refl _) _⟩
set_option maxHeartbeats 2000000 in
theorem has_4  (w : World) : Calls Tryd.prog 42 #[.int .i64 4] w fun e w' => e = .returned (.agg (bitCells ⟨true, false, true, true, true, true, false, false⟩)) ∧ Below w.heap.size w w' := by
  go_enter Tryd.func42, Tryd.ntmps42
  go_wp2
  have hk := World.rangeAt_of_block (World.alloc_heap_new w (.cells (bitCells ⟨true, false, true, true, true, true, false, false⟩) 80)) 0 8
  have hr := run_loadVar_mid (P := Tryd.prog) _ w.heap.size 0 80 _ _ hk Tryd.underlying80 rfl (by kernel_rfl)
  exact bodyPost_ret (res_cell1 Tryd.results42 rfl hr) rfl ⟨rfl, (Below.refl _ _).alloc (Nat.le_refl _) _⟩
set_option maxHeartbeats 2000000 in
theorem has_5  (w : World) : Calls Tryd.prog 42 #[.int .i64 5] w fun e w' => e = .returned (.agg (bitCells ⟨true, false, false, true, true, false, false, false⟩)) ∧ Below w.heap.size w w' := by
  go_enter Tryd.func42, Tryd.ntmps42
  go_wp2
  have hk := World.rangeAt_of_block (World.alloc_heap_new w (.cells (bitCells ⟨true, false, false, true, true, false, false, false⟩) 80)) 0 8
  have hr := run_loadVar_mid (P := Tryd.prog) _ w.heap.size 0 80 _ _ hk Tryd.underlying80 rfl (by kernel_rfl)
  exact bodyPost_ret (res_cell1 Tryd.results42 rfl hr) rfl ⟨rfl, (Below.refl _ _).alloc (Nat.le_refl _) _⟩
set_option maxHeartbeats 2000000 in
theorem has_6  (w : World) : Calls Tryd.prog 42 #[.int .i64 6] w fun e w' => e = .returned (.agg (bitCells ⟨true, false, false, true, false, false, false, false⟩)) ∧ Below w.heap.size w w' := by
  go_enter Tryd.func42, Tryd.ntmps42
  go_wp2
  have hk := World.rangeAt_of_block (World.alloc_heap_new w (.cells (bitCells ⟨true, false, false, true, false, false, false, false⟩) 80)) 0 8
  have hr := run_loadVar_mid (P := Tryd.prog) _ w.heap.size 0 80 _ _ hk Tryd.underlying80 rfl (by kernel_rfl)
  exact bodyPost_ret (res_cell1 Tryd.results42 rfl hr) rfl ⟨rfl, (Below.refl _ _).alloc (Nat.le_refl _) _⟩
set_option maxHeartbeats 2000000 in
theorem has_7  (w : World) : Calls Tryd.prog 42 #[.int .i64 7] w fun e w' => e = .returned (.agg (bitCells ⟨false, false, false, false, false, false, true, false⟩)) ∧ Below w.heap.size w w' := by
  go_enter Tryd.func42, Tryd.ntmps42
  go_wp2
  have hk := World.rangeAt_of_block (World.alloc_heap_new w (.cells (bitCells ⟨false, false, false, false, false, false, true, false⟩) 80)) 0 8
  have hr := run_loadVar_mid (P := Tryd.prog) _ w.heap.size 0 80 _ _ hk Tryd.underlying80 rfl (by kernel_rfl)
  exact bodyPost_ret (res_cell1 Tryd.results42 rfl hr) rfl ⟨rfl, (Below.refl _ _).alloc (Nat.le_refl _) _⟩
set_option maxHeartbeats 2000000 in
theorem has_8  (w : World) : Calls Tryd.prog 42 #[.int .i64 8] w fun e w' => e = .returned (.agg (bitCells ⟨false, false, false, false, false, false, false, true⟩)) ∧ Below w.heap.size w w' := by
  go_enter Tryd.func42, Tryd.ntmps42
  go_wp2
  have hk := World.rangeAt_of_block (World.alloc_heap_new w (.cells (bitCells ⟨false, false, false, false, false, false, false, true⟩) 80)) 0 8
  have hr := run_loadVar_mid (P := Tryd.prog) _ w.heap.size 0 80 _ _ hk Tryd.underlying80 rfl (by kernel_rfl)
  exact bodyPost_ret (res_cell1 Tryd.results42 rfl hr) rfl ⟨rfl, (Below.refl _ _).alloc (Nat.le_refl _) _⟩
set_option maxHeartbeats 2000000 in
theorem has_0 (k : Int) (h1 : k ≠ 1) (h2 : k ≠ 2) (h3 : k ≠ 3) (h9 : k ≠ 9) (h10 : k ≠ 10) (h4 : k ≠ 4) (h5 : k ≠ 5) (h6 : k ≠ 6) (h7 : k ≠ 7) (h8 : k ≠ 8) (w : World) : Calls Tryd.prog 42 #[.int .i64 k] w fun e w' => e = .returned (.agg (bitCells ⟨false, false, false, false, false, false, false, false⟩)) ∧ Below w.heap.size w w' := by
  have d1 : (k == 1) = false := by rw [beq_eq_false_iff_ne]; exact h1
  have d2 : (k == 2) = false := by rw [beq_eq_false_iff_ne]; exact h2
  have d3 : (k == 3) = false := by rw [beq_eq_false_iff_ne]; exact h3
  have d9 : (k == 9) = false := by rw [beq_eq_false_iff_ne]; exact h9
  have d10 : (k == 10) = false := by rw [beq_eq_false_iff_ne]; exact h10
  have d4 : (k == 4) = false := by rw [beq_eq_false_iff_ne]; exact h4
  have d5 : (k == 5) = false := by rw [beq_eq_false_iff_ne]; exact h5
  have d6 : (k == 6) = false := by rw [beq_eq_false_iff_ne]; exact h6
  have d7 : (k == 7) = false := by rw [beq_eq_false_iff_ne]; exact h7
  have d8 : (k == 8) = false := by rw [beq_eq_false_iff_ne]; exact h8
  clear h1 h2 h3 h9 h10 h4 h5 h6 h7 h8
  go_enter Tryd.func42, Tryd.ntmps42
  go_wp2
  have hk := World.rangeAt_of_block (World.alloc_heap_new w (.cells (bitCells ⟨false, false, false, false, false, false, false, false⟩) 80)) 0 8
  have hr := run_loadVar_mid (P := Tryd.prog) _ w.heap.size 0 80 _ _ hk Tryd.underlying80 rfl (by kernel_rfl)
  exact bodyPost_ret (res_cell1 Tryd.results42 rfl hr) rfl ⟨rfl, (Below.refl _ _).alloc (Nat.le_refl _) _⟩
theorem bits_1 {k : Int} (h : k = 1) : bitsOf k = ⟨true, false, false, false, true, false, false, false⟩ := by subst h; rfl
theorem bits_2 {k : Int} (h : k = 2) : bitsOf k = ⟨true, true, false, true, true, true, false, false⟩ := by subst h; rfl
theorem bits_3 {k : Int} (h : k = 3) : bitsOf k = ⟨true, false, false, false, false, false, false, false⟩ := by subst h; rfl
theorem bits_9 {k : Int} (h : k = 9) : bitsOf k = ⟨true, false, false, false, false, false, false, false⟩ := by subst h; rfl
theorem bits_10 {k : Int} (h : k = 10) : bitsOf k = ⟨true, false, false, false, false, false, false, false⟩ := by subst h; rfl
theorem bits_4 {k : Int} (h : k = 4) : bitsOf k = ⟨true, false, true, true, true, true, false, false⟩ := by subst h; rfl
theorem bits_5 {k : Int} (h : k = 5) : bitsOf k = ⟨true, false, false, true, true, false, false, false⟩ := by subst h; rfl
theorem bits_6 {k : Int} (h : k = 6) : bitsOf k = ⟨true, false, false, true, false, false, false, false⟩ := by subst h; rfl
theorem bits_7 {k : Int} (h : k = 7) : bitsOf k = ⟨false, false, false, false, false, false, true, false⟩ := by subst h; rfl
theorem bits_8 {k : Int} (h : k = 8) : bitsOf k = ⟨false, false, false, false, false, false, false, true⟩ := by subst h; rfl
theorem bits_0 {k : Int} (h1 : k ≠ 1) (h2 : k ≠ 2) (h3 : k ≠ 3) (h9 : k ≠ 9) (h10 : k ≠ 10) (h4 : k ≠ 4) (h5 : k ≠ 5) (h6 : k ≠ 6) (h7 : k ≠ 7) (h8 : k ≠ 8) : bitsOf k = ⟨false, false, false, false, false, false, false, false⟩ := by
  unfold bitsOf
  rw [if_neg h1, if_neg h2, if_neg h3, if_neg h9, if_neg h10, if_neg h4, if_neg h5, if_neg h6, if_neg h7, if_neg h8]
theorem refHas_any (k : Int) (w : World) : Calls Tryd.prog 42 #[.int .i64 k] w fun e w' => e = .returned (.agg (bitCells (bitsOf k))) ∧ Below w.heap.size w w' := by
  by_cases h1 : k = 1
  · rw [bits_1 h1]; subst h1; exact has_1 w
  · skip
    by_cases h2 : k = 2
    · rw [bits_2 h2]; subst h2; exact has_2 w
    · skip
      by_cases h3 : k = 3
      · rw [bits_3 h3]; subst h3; exact has_3 w
      · skip
        by_cases h9 : k = 9
        · rw [bits_9 h9]; subst h9; exact has_9 w
        · skip
          by_cases h10 : k = 10
          · rw [bits_10 h10]; subst h10; exact has_10 w
          · skip
            by_cases h4 : k = 4
            · rw [bits_4 h4]; subst h4; exact has_4 w
            · skip
              by_cases h5 : k = 5
              · rw [bits_5 h5]; subst h5; exact has_5 w
              · skip
                by_cases h6 : k = 6
                · rw [bits_6 h6]; subst h6; exact has_6 w
                · skip
                  by_cases h7 : k = 7
                  · rw [bits_7 h7]; subst h7; exact has_7 w
                  · skip
                    by_cases h8 : k = 8
                    · rw [bits_8 h8]; subst h8; exact has_8 w
                    · skip
                      rw [bits_0 h1 h2 h3 h9 h10 h4 h5 h6 h7 h8]
                      exact has_0 k h1 h2 h3 h9 h10 h4 h5 h6 h7 h8 w
end Go.Proofs.YtnekpehgaojkaaaDoor
