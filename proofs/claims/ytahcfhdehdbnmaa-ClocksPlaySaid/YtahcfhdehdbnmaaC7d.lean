/- works of layer 7. -/
import Derived.Test.YtahcfhdehdbnmaaC7c
namespace Go.Proofs.Ytahcfhdehdbnmaa
open Go.RowKit

/-- No clock is beyond m. -/
def Ups (c : Clk) (m : Nat) : Prop := ∀ j, j < c.n → 0 ≤ c.a j ∧ c.a j ≤ m
theorem ups_low {c : Clk} {m : Nat} (h : Ups c m) (hm : m ≤ 1073741824) : Low c.n c.a := fun j hj => by
  have := h j hj
  omega
theorem ups_new (n : Nat) : Ups (newClk n) 0 := fun _ _ => ⟨Int.le_refl _, Int.le_refl _⟩
theorem ups_tick {c : Clk} {m : Nat} (h : Ups c m) (s : Nat) (hs : s < c.n) : Ups (c.tick s) (m + 1) := fun j hj => by
  have h1 := h j hj
  have h2 := h s hs
  show 0 ≤ upd c.a s (c.a s + 1) j ∧ upd c.a s (c.a s + 1) j ≤ ((m + 1 : Nat) : Int)
  unfold upd
  split <;> omega
theorem ups_more {c : Clk} {m : Nat} (h : Ups c m) : Ups c (m + 1) := fun j hj => by
  have := h j hj
  omega
theorem tick_ups {B : Nat} {c : Clk} {m : Nat} (hn : 2 ≤ c.n) (h7 : c.n ≤ 7) (hu : Ups c m) (hm : m < 1073741824) (s : Nat) (hs : s < c.n) {w : World} (h : clkAt w B c) :
    Calls Try.prog 11 #[.pointer (some ⟨B, 0, none⟩), .int .i64 s] w fun e w' => e = .returned (.int .i64 0) ∧ w.grownBy w' (some B) ∧ clkAt w' B (c.tick s) :=
  tick_in hn h7 (ups_low hu (by omega)) s hs (by have := hu s hs; omega) h
theorem skew_ups {B : Nat} {c : Clk} {m : Nat} (hn : 2 ≤ c.n) (h7 : c.n ≤ 7) (hu : Ups c m) (hm : m ≤ 1073741824) {w : World} (h : clkAt w B c) :
    Calls Try.prog 13 #[.pointer (some ⟨B, 0, none⟩)] w fun e w' => e = .returned (.int .i64 (skew c.n c.a)) ∧ ∃ d, w' = w.drewN d :=
  skew_in hn h7 (ups_low hu hm) h

def clk0 : Clk := newClk 3
def clk1 : Clk := clk0.tick 0
def clk2 : Clk := clk1.tick 0
def clk3 : Clk := clk2.tick 2
def clk4 : Clk := clk3.tick 1
def clk5 : Clk := clk4.tick 1
theorem ex_at : clk3.a 0 = 2 := by decide
theorem ex_skew : skew clk3.n clk3.a = 2 := by decide
theorem ex_worst : clk3.worst = 2 := by decide
theorem ex_skew5 : skew clk5.n clk5.a = 1 := by decide
theorem ex_worst5 : clk5.worst = 2 := by decide
theorem ups1 : Ups clk1 1 := ups_tick (ups_new 3) 0 (by decide)
theorem ups2 : Ups clk2 2 := ups_tick ups1 0 (by decide)
theorem ups3 : Ups clk3 3 := ups_tick ups2 2 (by decide)
theorem ups4 : Ups clk4 4 := ups_tick ups3 1 (by decide)
theorem ups5 : Ups clk5 5 := ups_tick ups4 1 (by decide)
theorem out_any {p q : Prop} (h : q) : p ∨ q := .inr h

set_option maxRecDepth 100000 in
set_option maxHeartbeats 4000000 in
theorem works_any (w : World) : Calls Try.prog 10 #[] w fun e w' => e = .returned (.bool true) ∧ Below w.heap.size w w' := by
  have X0 := Lib.hid (new_yes 3 (by omega) (by omega) w)
  generalize hB : w.heap.size = B at *
  have HB := Lib.hid hB
  clear hB
  go_enter Try.func10, Try.ntmps10
  go_wp2_with fail
  refine X0.out.mono ?_
  rintro e w1 ⟨rfl, b1, s1, h1⟩
  have H1 := Lib.hid h1
  clear X0 h1
  go_wp2_with fail
  refine (tick_ups (c := clk0) (by decide) (by decide) (ups_new 3) (by omega) 0 (by decide) H1.out).mono ?_
  rintro e w2 ⟨rfl, g2, h2⟩
  have H2 := Lib.hid h2
  have b2 := b1.grown g2 (by omega) (fun k hk => by cases hk; exact Nat.le_refl _)
  have s2 := g2.size
  clear h2
  go_wp2_with fail
  refine (tick_ups (c := clk1) (by decide) (by decide) ups1 (by omega) 0 (by decide) H2.out).mono ?_
  rintro e w3 ⟨rfl, g3, h3⟩
  have H3 := Lib.hid h3
  have b3 := b2.grown g3 (by omega) (fun k hk => by cases hk; exact Nat.le_refl _)
  have s3 := g3.size
  clear h3
  go_wp2_with fail
  refine (tick_ups (c := clk2) (by decide) (by decide) ups2 (by omega) 2 (by decide) H3.out).mono ?_
  rintro e w4 ⟨rfl, g4, h4⟩
  have H4 := Lib.hid h4
  have b4 := b3.grown g4 (by omega) (fun k hk => by cases hk; exact Nat.le_refl _)
  have s4 := g4.size
  clear h4
  go_wp2_with fail
  refine (at_in (c := clk3) (by decide) (by decide) 0 (by decide) H4.out).mono ?_
  rw [ex_at]
  rintro e w5 ⟨rfl, rfl⟩
  go_wp2_with fail
  refine (skew_ups (c := clk3) (by decide) (by decide) ups3 (by omega) H4.out).mono ?_
  rw [ex_skew]
  rintro e w5 ⟨rfl, d, rfl⟩
  go_wp2_with fail
  refine (worst_in (c := clk3) (by decide) (clkAt_drawn H4.out)).mono ?_
  rw [ex_worst]
  rintro e w5 ⟨rfl, rfl⟩
  go_wp2_with fail
  refine (tick_ups (c := clk3) (by decide) (by decide) ups3 (by omega) 1 (by decide) (clkAt_drawn H4.out)).mono ?_
  rintro e w5 ⟨rfl, g5, h5⟩
  have H5 := Lib.hid h5
  have b5 := (below_drewN b4 d).grown g5 (by show _ ≤ w4.heap.size; omega) (fun k hk => by cases hk; exact Nat.le_refl _)
  have s5 : w4.heap.size ≤ w5.heap.size := g5.size
  clear h5
  go_wp2_with fail
  refine (tick_ups (c := clk4) (by decide) (by decide) ups4 (by omega) 1 (by decide) H5.out).mono ?_
  rintro e w6 ⟨rfl, g6, h6⟩
  have H6 := Lib.hid h6
  have b6 := b5.grown g6 (by omega) (fun k hk => by cases hk; exact Nat.le_refl _)
  clear h6
  go_wp2_with fail
  refine (skew_ups (c := clk5) (by decide) (by decide) ups5 (by omega) H6.out).mono ?_
  rw [ex_skew5]
  rintro e w7 ⟨rfl, d2, rfl⟩
  go_wp2_with fail
  refine (worst_in (c := clk5) (by decide) (clkAt_drawn H6.out)).mono ?_
  rw [ex_worst5]
  rintro e w7 ⟨rfl, rfl⟩
  go_wp2_with fail
  refine (tick_out (c := clk5) (by decide) 3 (out_any (by decide)) (clkAt_drawn H6.out)).mono ?_
  rintro e w7 ⟨rfl, rfl⟩
  go_wp2
  go_ret
  exact ⟨rfl, below_drewN b6 d2⟩
end Go.Proofs.Ytahcfhdehdbnmaa
