/- The contracts of clocks: sites, Majority, New, ask, At, Worst. -/
import Derived.Test.YtahcfhdehdbnmaaRows
import Derived.Test.YtahcfhdehdbnmaaAid
import Derived.WalkKit
import Derived.Lib.Hide
import Derived.Outline
import Derived.BigQuiet
import Derived.Deep.QuietTactic
import Derived.WalkSmall
import Derived.WalkLawsBesides
namespace Go.Proofs.Ytahcfhdehdbnmaa
open Go.RowKit

/-- Clocks: how many, where each is, the worst skew. -/
structure Clk where
  n : Nat
  a : Nat → Int
  worst : Int
def clkCells (c : Clk) : Array Value := #[.int .i64 c.n, .int .i64 (c.a 0), .int .i64 (c.a 1), .int .i64 (c.a 2), .int .i64 (c.a 3), .int .i64 (c.a 4), .int .i64 (c.a 5), .int .i64 (c.a 6), .int .i64 c.worst]
/-- They lie in block B. -/
def clkAt (w : World) (B : Nat) (c : Clk) : Prop := w.heap[B]? = some (.cells (clkCells c) 42 (0, 0))
theorem clk_cells {w : World} {B : Nat} {c : Clk} (h : clkAt w B c) : w.cell? ⟨B, 0, none⟩ = some (.int .i64 c.n) ∧ w.cell? ⟨B, 1, none⟩ = some (.int .i64 (c.a 0)) ∧ w.cell? ⟨B, 2, none⟩ = some (.int .i64 (c.a 1)) ∧ w.cell? ⟨B, 3, none⟩ = some (.int .i64 (c.a 2)) ∧
    w.cell? ⟨B, 4, none⟩ = some (.int .i64 (c.a 3)) ∧ w.cell? ⟨B, 5, none⟩ = some (.int .i64 (c.a 4)) ∧ w.cell? ⟨B, 6, none⟩ = some (.int .i64 (c.a 5)) ∧ w.cell? ⟨B, 7, none⟩ = some (.int .i64 (c.a 6)) ∧ w.cell? ⟨B, 8, none⟩ = some (.int .i64 c.worst) := by
  unfold clkAt at h
  refine ⟨?_, ?_, ?_, ?_, ?_, ?_, ?_, ?_, ?_⟩ <;> simp [World.cell?, h, clkCells]
theorem clk_cell {w : World} {B : Nat} {c : Clk} (h : clkAt w B c) (k : Nat) (hk : k < 7) : w.cell? ⟨B, 1 + k, none⟩ = some (.int .i64 (c.a k)) := by
  obtain ⟨_, h0, h1, h2, h3, h4, h5, h6, _⟩ := clk_cells h
  match k, hk with
  | 0, _ => exact h0
  | 1, _ => exact h1
  | 2, _ => exact h2
  | 3, _ => exact h3
  | 4, _ => exact h4
  | 5, _ => exact h5
  | 6, _ => exact h6

theorem sites_yes (n : Int) (h1 : 2 ≤ n) (h2 : n ≤ 7) (w : World) : Calls Try.prog 24 #[.int .i64 n] w fun e w' => e = .returned (.bool true) ∧ w = w' := by
  go_enter Try.func24, Try.ntmps24
  go_wp2
  go_ret
  exact ⟨rfl, rfl⟩
theorem sites_no (n : Int) (h : n < 2 ∨ 7 < n) (w : World) : Calls Try.prog 24 #[.int .i64 n] w fun e w' => e = .returned (.bool false) ∧ w = w' := by
  rcases h with h | h
  · have d : decide (2 ≤ n) = false := decide_eq_false (by omega)
    go_enter Try.func24, Try.ntmps24
    go_wp2
    go_ret
    exact ⟨rfl, rfl⟩
  · have d : decide (n ≤ 7) = false := decide_eq_false (by omega)
    go_enter Try.func24, Try.ntmps24
    go_wp2
    go_ret
    exact ⟨rfl, rfl⟩
theorem refSites_yes (n : Int) (h1 : 2 ≤ n) (h2 : n ≤ 7) (w : World) : Calls Try.prog 20 #[.int .i64 n] w fun e w' => e = .returned (.bool true) ∧ w = w' := by
  go_enter Try.func20, Try.ntmps20
  go_wp2
  go_ret
  exact ⟨rfl, rfl⟩
theorem refSites_no (n : Int) (h : n < 2 ∨ 7 < n) (w : World) : Calls Try.prog 20 #[.int .i64 n] w fun e w' => e = .returned (.bool false) ∧ w = w' := by
  rcases h with h | h
  · have d : decide (2 ≤ n) = false := decide_eq_false (by omega)
    go_enter Try.func20, Try.ntmps20
    go_wp2
    go_ret
    exact ⟨rfl, rfl⟩
  · have d : decide (n ≤ 7) = false := decide_eq_false (by omega)
    go_enter Try.func20, Try.ntmps20
    go_wp2
    go_ret
    exact ⟨rfl, rfl⟩
theorem majority_yes (n : Int) (h1 : 2 ≤ n) (h2 : n ≤ 7) (w : World) : Calls Try.prog 19 #[.int .i64 n] w fun e w' => e = .returned (.int .i64 (n / 2 + 1)) ∧ w = w' := by
  go_enter Try.func19, Try.ntmps19
  go_wp2_with fail
  refine (sites_yes n h1 h2 _).mono ?_
  rintro e w' ⟨rfl, rfl⟩
  go_wp2
  go_ret
  exact ⟨rfl, rfl⟩
theorem majority_no (n : Int) (h : n < 2 ∨ 7 < n) (w : World) : Calls Try.prog 19 #[.int .i64 n] w fun e w' => e = .returned (.int .i64 0) ∧ w = w' := by
  go_enter Try.func19, Try.ntmps19
  go_wp2_with fail
  refine (sites_no n h _).mono ?_
  rintro e w' ⟨rfl, rfl⟩
  go_wp2
  go_ret
  exact ⟨rfl, rfl⟩

/-- Clocks as they begin. -/
def newClk (n : Nat) : Clk := ⟨n, fun _ => 0, 0⟩
theorem new_yes (n : Nat) (h1 : 2 ≤ n) (h2 : n ≤ 7) (w : World) : Calls Try.prog 8 #[.int .i64 n] w fun e w' => e = .returned (.tuple #[.pointer (some ⟨w.heap.size, 0, none⟩), .int .i64 0]) ∧ Below w.heap.size w w' ∧ w'.heap.size = w.heap.size + 1 ∧ clkAt w' w.heap.size (newClk n) := by
  go_enter Try.func8, Try.ntmps8
  go_wp2_with fail
  refine (majority_yes n (by omega) (by omega) _).mono ?_
  rintro e w' ⟨rfl, rfl⟩
  have d : (((n : Int) / 2 + 1) == 0) = false := by rw [beq_eq_false_iff_ne]; omega
  go_wp2
  go_ret2
  exact ⟨rfl, (Below.refl _ _).alloc (Nat.le_refl _) _, by simp, World.alloc_heap_new w _⟩
theorem new_no (n : Int) (h : n < 2 ∨ 7 < n) (w : World) : Calls Try.prog 8 #[.int .i64 n] w fun e w' => e = .returned (.tuple #[.pointer none, .int .i64 2]) ∧ w = w' := by
  go_enter Try.func8, Try.ntmps8
  go_wp2_with fail
  refine (majority_no n h _).mono ?_
  rintro e w' ⟨rfl, rfl⟩
  go_wp2
  go_ret2
  exact ⟨rfl, rfl⟩

set_option maxHeartbeats 1000000 in
theorem ask_in {B : Nat} {c : Clk} (hn : 2 ≤ c.n) (site : Nat) (hs : site < c.n) {w : World} (h : clkAt w B c) :
    Calls Try.prog 21 #[.pointer (some ⟨B, 0, none⟩), .int .i64 site] w fun e w' => e = .returned (.int .i64 0) ∧ w = w' := by
  obtain ⟨c0, c1, c2, c3, c4, c5, c6, c7, c8⟩ := clk_cells h
  clear h
  go_enter Try.func21, Try.ntmps21
  go_wp2
  go_ret
  exact ⟨rfl, rfl⟩
set_option maxHeartbeats 1000000 in
theorem ask_out {B : Nat} {c : Clk} (hn : 2 ≤ c.n) (site : Int) (hs : site < 0 ∨ (c.n : Int) ≤ site) {w : World} (h : clkAt w B c) :
    Calls Try.prog 21 #[.pointer (some ⟨B, 0, none⟩), .int .i64 site] w fun e w' => e = .returned (.int .i64 2) ∧ w = w' := by
  obtain ⟨c0, c1, c2, c3, c4, c5, c6, c7, c8⟩ := clk_cells h
  clear h
  rcases hs with hs | hs
  · go_enter Try.func21, Try.ntmps21
    go_wp2
    go_ret
    exact ⟨rfl, rfl⟩
  · have d : decide (site < 0) = false := decide_eq_false (by omega)
    go_enter Try.func21, Try.ntmps21
    go_wp2
    go_ret
    exact ⟨rfl, rfl⟩

theorem at_in {B : Nat} {c : Clk} (hn : 2 ≤ c.n) (h7 : c.n ≤ 7) (site : Nat) (hs : site < c.n) {w : World} (h : clkAt w B c) :
    Calls Try.prog 16 #[.pointer (some ⟨B, 0, none⟩), .int .i64 site] w fun e w' => e = .returned (.tuple #[.int .i64 (c.a site), .int .i64 0]) ∧ w = w' := by
  have hc := clk_cell h site (by omega)
  have H := Lib.hid (ask_in hn site hs h)
  clear h
  go_enter Try.func16, Try.ntmps16
  go_wp2_with fail
  refine H.out.mono ?_
  rintro e w' ⟨rfl, rfl⟩
  go_wp2
  go_ret2
  exact ⟨rfl, rfl⟩
theorem at_out {B : Nat} {c : Clk} (hn : 2 ≤ c.n) (site : Int) (hs : site < 0 ∨ (c.n : Int) ≤ site) {w : World} (h : clkAt w B c) :
    Calls Try.prog 16 #[.pointer (some ⟨B, 0, none⟩), .int .i64 site] w fun e w' => e = .returned (.tuple #[.int .i64 0, .int .i64 2]) ∧ w = w' := by
  have H := Lib.hid (ask_out hn site hs h)
  clear h
  go_enter Try.func16, Try.ntmps16
  go_wp2_with fail
  refine H.out.mono ?_
  rintro e w' ⟨rfl, rfl⟩
  go_wp2
  go_ret2
  exact ⟨rfl, rfl⟩
theorem worst_in {B : Nat} {c : Clk} (hn : 2 ≤ c.n) {w : World} (h : clkAt w B c) :
    Calls Try.prog 15 #[.pointer (some ⟨B, 0, none⟩)] w fun e w' => e = .returned (.int .i64 c.worst) ∧ w = w' := by
  have c8 := (clk_cells h).2.2.2.2.2.2.2.2
  have H := Lib.hid (ask_in hn 0 (by omega) h)
  clear h
  go_enter Try.func15, Try.ntmps15
  go_wp2_with fail
  refine H.out.mono ?_
  rintro e w' ⟨rfl, rfl⟩
  go_wp2
  go_ret
  exact ⟨rfl, rfl⟩
end Go.Proofs.Ytahcfhdehdbnmaa
