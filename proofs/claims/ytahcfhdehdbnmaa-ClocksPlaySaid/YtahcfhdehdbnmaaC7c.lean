/- The contract of clocks: Tick. -/
import Derived.Test.YtahcfhdehdbnmaaC7b
import Derived.RegionTactic
import Derived.Deep.RegionWith
import Derived.StillTailTactics
namespace Go.Proofs.Ytahcfhdehdbnmaa
open Go.RowKit

def upd (a : Nat → Int) (s : Nat) (x : Int) : Nat → Int := fun j => if j = s then x else a j
theorem clk_set {w : World} {B : Nat} {c : Clk} (h : clkAt w B c) (k : Nat) (hk : k < 7) (x : Int) : clkAt (w.setCell ⟨B, 1 + k, none⟩ (.int .i64 x)) B ⟨c.n, upd c.a k x, c.worst⟩ := by
  unfold clkAt at *
  simp only [World.setCell, Array.getElem?_modify, h]
  match k, hk with
  | 0, _ => simp [clkCells, upd]
  | 1, _ => simp [clkCells, upd]
  | 2, _ => simp [clkCells, upd]
  | 3, _ => simp [clkCells, upd]
  | 4, _ => simp [clkCells, upd]
  | 5, _ => simp [clkCells, upd]
  | 6, _ => simp [clkCells, upd]
theorem clk_setw {w : World} {B : Nat} {c : Clk} (h : clkAt w B c) (x : Int) : clkAt (w.setCell ⟨B, 8, none⟩ (.int .i64 x)) B ⟨c.n, c.a, x⟩ := by
  unfold clkAt at *
  simp [World.setCell, Array.getElem?_modify, h, clkCells]
theorem clk_free {w : World} {B : Nat} {c : Clk} (h : clkAt w B c) (j : Nat) : w.frozen? ⟨B, j, none⟩ = false := by
  unfold clkAt at h
  simp [World.frozen?, h]
/-- The worse one of two. -/
def worse (a b : Int) : Int := if a < b then b else a
/-- Clocks of which one went on. -/
def Clk.tick (c : Clk) (s : Nat) : Clk := ⟨c.n, upd c.a s (c.a s + 1), worse c.worst (skew c.n (upd c.a s (c.a s + 1)))⟩
/-- Nothing but block B is written. -/
theorem only_set (w : World) (B o : Nat) (v : Value) : w.grownBy (w.setCell ⟨B, o, none⟩ v) (some B) :=
  ⟨rfl, rfl, rfl, by simp [World.setCell], fun k _ hn => Below.heap_setCell _ _ _ _ (fun e => hn (by rw [e]))⟩
theorem only_trans {a b c : World} {B : Nat} (h : a.grownBy b (some B)) (k : b.grownBy c (some B)) : a.grownBy c (some B) :=
  ⟨k.os.trans h.os, k.tape.trans h.tape, k.output.trans h.output, Nat.le_trans h.size k.size, fun i hi hn => (k.block i (Nat.lt_of_lt_of_le hi h.size) hn).trans (h.block i hi hn)⟩
theorem only_drawn {a b : World} {B : Nat} (h : a.grownBy b (some B)) (d : Nat) : a.grownBy (b.drewN d) (some B) := ⟨h.os, h.tape, h.output, h.size, h.block⟩
theorem upd_same (a : Nat → Int) (s : Nat) (x : Int) : upd a s x s = x := by simp [upd]
theorem upd_low {n s : Nat} {a : Nat → Int} (h : Low n a) (x : Int) (h0 : 0 ≤ x) (h1 : x ≤ 1073741824) : Low n (upd a s x) := by
  intro j hj
  unfold upd
  split
  · exact ⟨h0, h1⟩
  · exact h j hj

set_option maxRecDepth 100000 in
set_option maxHeartbeats 2000000 in
theorem tick_in {B : Nat} {c : Clk} (hn : 2 ≤ c.n) (h7 : c.n ≤ 7) (hl : Low c.n c.a) (s : Nat) (hs : s < c.n) (hm : c.a s < 1073741824) {w : World} (h : clkAt w B c) :
    Calls Try.prog 11 #[.pointer (some ⟨B, 0, none⟩), .int .i64 s] w fun e w' => e = .returned (.int .i64 0) ∧ w.grownBy w' (some B) ∧ clkAt w' B (c.tick s) := by
  have HA := Lib.hid (ask_in hn s hs h)
  have H := Lib.hid h
  have hc := clk_cell h s (by omega)
  have hf := clk_free h (1 + s)
  have hb := hl s hs
  have hl1 := upd_low (s := s) hl (c.a s + 1) (by omega) (by omega)
  obtain ⟨w1, e1, h1, g1⟩ : ∃ w1, (w.setCell ⟨B, 1 + s, none⟩ (.int .i64 (c.a s + 1))).drew = w1 ∧ clkAt w1 B ⟨c.n, upd c.a s (c.a s + 1), c.worst⟩ ∧ w.grownBy w1 (some B) :=
    ⟨_, rfl, clk_set h s (by omega) _, ⟨rfl, rfl, rfl, (only_set w B (1 + s) _).size, (only_set w B (1 + s) _).block⟩⟩
  have E1 := Lib.hid e1
  have H1 := Lib.hid h1
  have c8 : w1.cell? ⟨B, 8, none⟩ = some (.int .i64 c.worst) := (clk_cells h1).2.2.2.2.2.2.2.2
  have hf8 := clk_free h1 8
  clear e1 h1
  have hs7 : (s : Int) < 7 := by omega
  clear h
  go_enter Try.func11, Try.ntmps11
  go_wp2_with fail
  refine HA.out.mono ?_
  rintro e w' ⟨rfl, rfl⟩
  go_wp2_with fail
  go_still_tail 12, (by kernel_rfl)
  change wpList _ _ _ _ _ w.drew
  go_wp2_with fail
  rw [E1.out]
  go_region_with (go_at_call 13; refine (skew_in (c := ⟨c.n, upd c.a s (c.a s + 1), c.worst⟩) hn h7 hl1 (w := _) (by exact H1.out)).mono ?_; rintro e w' ⟨rfl, d, rfl⟩)
  all_goals
    rw [show (if c.worst < skew c.n (upd c.a s (c.a s + 1)) then skew c.n (upd c.a s (c.a s + 1)) else c.worst) = worse c.worst (skew c.n (upd c.a s (c.a s + 1))) from rfl]
    go_wp2
    go_ret
    exact ⟨rfl, only_trans (only_drawn g1 _) (only_set _ _ _ _), clk_setw (clkAt_drawn H1.out) _⟩
theorem tick_out {B : Nat} {c : Clk} (hn : 2 ≤ c.n) (s : Int) (hs : s < 0 ∨ (c.n : Int) ≤ s) {w : World} (h : clkAt w B c) :
    Calls Try.prog 11 #[.pointer (some ⟨B, 0, none⟩), .int .i64 s] w fun e w' => e = .returned (.int .i64 2) ∧ w = w' := by
  have HA := Lib.hid (ask_out hn s hs h)
  clear h
  go_enter Try.func11, Try.ntmps11
  go_wp2_with fail
  refine HA.out.mono ?_
  rintro e w' ⟨rfl, rfl⟩
  go_wp2
  go_ret
  exact ⟨rfl, rfl⟩
end Go.Proofs.Ytahcfhdehdbnmaa
