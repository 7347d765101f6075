/- Walk of layer 7: ClocksNone. -/
import Derived.Test.YtahcfhdehdbnmaaC7d
namespace Go.Proofs.Ytahcfhdehdbnmaa
open Go.RowKit

/-- Clocks that are none: no pointer, or one to what is all 0. -/
def noClk (w : World) (p : Value) : Prop := p = .pointer none ∨ ∃ B, p = .pointer (some ⟨B, 0, none⟩) ∧ clkAt w B (newClk 0)
theorem zeros_equal (w : World) : (Op.equalIn 9999 38 (.agg #[.int .i64 0, .int .i64 0, .int .i64 0, .int .i64 0, .int .i64 0, .int .i64 0, .int .i64 0]) (.agg #[.int .i64 0, .int .i64 0, .int .i64 0, .int .i64 0, .int .i64 0, .int .i64 0, .int .i64 0])).run Try.prog w = .ok true w := by kernel_rfl
theorem ask_none {p : Value} (site : Int) {w : World} (h : noClk w p) :
    Calls Try.prog 21 #[p, .int .i64 site] w fun e w' => e = .returned (.int .i64 1) ∧ w = w' := by
  rcases h with rfl | ⟨B, rfl, h⟩
  · go_enter Try.func21, Try.ntmps21
    go_wp2
    go_ret
    exact ⟨rfl, rfl⟩
  · obtain ⟨c0, c1, c2, c3, c4, c5, c6, c7, c8⟩ := clk_cells h
    simp only [newClk] at c0 c1 c2 c3 c4 c5 c6 c7 c8
    rw [show (((0 : Nat) : Int)) = 0 from rfl] at c0
    clear h
    have heq := zeros_equal
    go_enter Try.func21, Try.ntmps21
    go_wp2
    go_ret
    exact ⟨rfl, rfl⟩
theorem at_none {p : Value} (site : Int) {w : World} (h : noClk w p) :
    Calls Try.prog 16 #[p, .int .i64 site] w fun e w' => e = .returned (.tuple #[.int .i64 0, .int .i64 1]) ∧ w = w' := by
  have H := Lib.hid (ask_none site h)
  clear h
  go_enter Try.func16, Try.ntmps16
  go_wp2_with fail
  refine H.out.mono ?_
  rintro e w' ⟨rfl, rfl⟩
  go_wp2
  go_ret2
  exact ⟨rfl, rfl⟩
theorem tick_none {p : Value} (site : Int) {w : World} (h : noClk w p) :
    Calls Try.prog 11 #[p, .int .i64 site] w fun e w' => e = .returned (.int .i64 1) ∧ w = w' := by
  have H := Lib.hid (ask_none site h)
  clear h
  go_enter Try.func11, Try.ntmps11
  go_wp2_with fail
  refine H.out.mono ?_
  rintro e w' ⟨rfl, rfl⟩
  go_wp2
  go_ret
  exact ⟨rfl, rfl⟩
theorem skew_none {p : Value} {w : World} (h : noClk w p) :
    Calls Try.prog 13 #[p] w fun e w' => e = .returned (.int .i64 0) ∧ w = w' := by
  have H := Lib.hid (ask_none 0 h)
  clear h
  go_enter Try.func13, Try.ntmps13
  go_wp2_with fail
  refine H.out.mono ?_
  rintro e w' ⟨rfl, rfl⟩
  go_wp2
  go_ret
  exact ⟨rfl, rfl⟩
theorem worst_none {p : Value} {w : World} (h : noClk w p) :
    Calls Try.prog 15 #[p] w fun e w' => e = .returned (.int .i64 0) ∧ w = w' := by
  have H := Lib.hid (ask_none 0 h)
  clear h
  go_enter Try.func15, Try.ntmps15
  go_wp2_with fail
  refine H.out.mono ?_
  rintro e w' ⟨rfl, rfl⟩
  go_wp2
  go_ret
  exact ⟨rfl, rfl⟩

set_option maxRecDepth 100000 in
set_option maxHeartbeats 4000000 in
theorem clocksNone_walk (site : Int) (_ : (Lit.int .i64 site).wf = true) (w : World) :
    Calls Try.prog 4 #[.int .i64 site] w fun e w' => e = .returned (.bool true) ∧ Below w.heap.size w w' := by
  go_enter Try.func4, Try.ntmps4
  go_wp2_with fail
  go_loopw [3] (fun i wr => ∃ k : Nat, k ≤ 2 ∧ i = .int .i64 k ∧ Below w.heap.size w wr) (fun i _ => 2 - (intOf i).toNat)
  case atStart => exact ⟨0, by omega, rfl, Below.refl _ _⟩
  case round =>
    obtain ⟨k, hk, rfl, hB⟩ := hrel
    have hbs := hB.size
    by_cases h2 : k = 2
    · subst h2
      go_wp2_with fail
      refine (works_any _).mono ?_
      rintro e w4 ⟨rfl, b4⟩
      go_wp2
      go_ret
      exact ⟨rfl, hB.trans (b4.mono hB.size)⟩
    · by_cases h1 : k = 1
      · subst h1
        obtain ⟨w1, e1, b1, n1⟩ : ∃ w1, wr.alloc (.cells (clkCells (newClk 0)) 42) = w1 ∧ Below w.heap.size w w1 ∧ noClk w1 (.pointer (some ⟨wr.heap.size, 0, none⟩)) :=
          ⟨_, rfl, hB.alloc hB.size _, .inr ⟨_, rfl, World.alloc_heap_new wr _⟩⟩
        have E1 := Lib.hid (show wr.alloc (.cells #[.int .i64 0, .int .i64 0, .int .i64 0, .int .i64 0, .int .i64 0, .int .i64 0, .int .i64 0, .int .i64 0, .int .i64 0] 42) = w1 from e1)
        have N1 := Lib.hid n1
        clear e1 n1
        go_wp2_with fail
        rw [E1.out]
        refine (at_none site N1.out).mono ?_
        rintro e w2 ⟨rfl, rfl⟩
        go_wp2_with fail
        refine (tick_none site N1.out).mono ?_
        rintro e w2 ⟨rfl, rfl⟩
        go_wp2_with fail
        refine (skew_none N1.out).mono ?_
        rintro e w2 ⟨rfl, rfl⟩
        go_wp2_with fail
        refine (worst_none N1.out).mono ?_
        rintro e w2 ⟨rfl, rfl⟩
        go_wp2
        go_roundw
        case rel => exact ⟨2, by omega, rfl, b1⟩
        case measure => simp [intOf]
      · obtain rfl : k = 0 := by omega
        go_wp2_with fail
        refine (at_none site (.inl rfl)).mono ?_
        rintro e w2 ⟨rfl, rfl⟩
        go_wp2_with fail
        refine (tick_none site (.inl rfl)).mono ?_
        rintro e w2 ⟨rfl, rfl⟩
        go_wp2_with fail
        refine (skew_none (.inl rfl)).mono ?_
        rintro e w2 ⟨rfl, rfl⟩
        go_wp2_with fail
        refine (worst_none (.inl rfl)).mono ?_
        rintro e w2 ⟨rfl, rfl⟩
        go_wp2
        go_roundw
        case rel => exact ⟨1, by omega, rfl, hB⟩
        case measure => simp [intOf]
end Go.Proofs.Ytahcfhdehdbnmaa
