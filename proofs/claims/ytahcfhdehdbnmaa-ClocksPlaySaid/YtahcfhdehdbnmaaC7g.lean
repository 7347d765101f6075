/- The contract of the law's all; walk of layer 7: ClocksSkew. -/
import Derived.Test.YtahcfhdehdbnmaaC7f
namespace Go.Proofs.Ytahcfhdehdbnmaa
open Go.RowKit

theorem info_int : (Try.prog.info? 3).map (fun i => (i.zero, i.size, i.bytes)) = some (some (.int .i64 0), 1, 8) := by kernel_rfl
theorem owned_cells {w : World} {B : Nat} {e : TypeId} {v : Value} {n : Nat} {xs : List Value} (h : w.ownsRow B e 1 v n xs) (hn : 0 < n) :
    ∃ g cap, v = .slice (some ⟨g, 0, none⟩) n cap ∧ B ≤ g ∧ g < w.heap.size ∧ ∀ j, j < n → w.cell? ⟨g, j, none⟩ = xs[j]? := by
  obtain ⟨_, h⟩ := h
  rcases h with ⟨_, h0⟩ | ⟨g, cap, cur, rfl, hg, hh, _, _, _, ht⟩
  · omega
  · refine ⟨g, cap, rfl, hg, (Array.getElem?_eq_some_iff.1 hh).1, fun j hj => ?_⟩
    rw [← ht, List.getElem?_take_of_lt (by omega)]
    simp [World.cell?, hh]
theorem new_at (w : World) (v : Value) (t : TypeId) : ∀ (j : Nat) (u : Value), [v][j]? = some u → (w.alloc (.cells #[v] t)).cell? ((⟨w.heap.size, 0, none⟩ : Addr).add j) = some u := by
  intro j u h
  cases j with
  | zero =>
    simp at h; subst h
    simp [Addr.add]
  | succ j => simp at h
theorem one_int (k : IntKind) (n : Int) : ∀ u ∈ [Value.int k n], u.oneCell' = true := by
  intro u hu
  simp at hu; subst hu; rfl
theorem grew {w wr w1 : World} {v : Value} {e : TypeId} {size n : Nat} {xs : List Value} {o : Obj} (hB : Below w.heap.size w wr) (hown : wr.ownsRow w.heap.size e size v n xs) (hg : (wr.alloc o).grownBy w1 v.ownBlock) : Below w.heap.size w w1 :=
  (hB.alloc hB.size o).grown hg (by have := hB.size; simp; omega) (fun k hk => (hown.lt k hk).1)
def firstOf (a : Nat → Int) (k : Nat) : List Value := (List.range k).map fun j => .int .i64 (a j)
theorem first_more (a : Nat → Int) (k : Nat) : firstOf a k ++ [.int .i64 (a k)] = firstOf a (k + 1) := by simp [firstOf, List.range_succ]
theorem first_get (a : Nat → Int) (k j : Nat) (h : j < k) : (firstOf a k)[j]? = some (.int .i64 (a j)) := by simp [firstOf, h]
/-- What all answers: where each clock is, in memory of its own. -/
def AllOf (c : Clk) (w : World) (e : Ending) (w' : World) : Prop :=
  ∃ g cap, e = .returned (.tuple #[.slice (some ⟨g, 0, none⟩) c.n cap, .bool true]) ∧ w.heap.size ≤ g ∧ g < w'.heap.size ∧ (∀ j, j < c.n → w'.cell? ⟨g, j, none⟩ = some (.int .i64 (c.a j))) ∧ Below w.heap.size w w'
theorem all_done {c : Clk} (hn : 2 ≤ c.n) {w wr : World} {v : Value} (h : wr.ownsRow w.heap.size 3 1 v c.n (firstOf c.a c.n)) (hb : Below w.heap.size w wr) : AllOf c w (.returned (.tuple #[v, .bool true])) wr := by
  obtain ⟨g, cap, rfl, h1, h2, h3⟩ := owned_cells h (by omega)
  exact ⟨g, cap, rfl, h1, h2, fun j hj => (h3 j hj).trans (first_get _ _ _ hj), hb⟩

set_option maxRecDepth 100000 in
set_option maxHeartbeats 2000000 in
theorem all_any {B : Nat} {c : Clk} (hn : 2 ≤ c.n) (h7 : c.n ≤ 7) {w : World} (h : clkAt w B c) :
    Calls Try.prog 18 #[.pointer (some ⟨B, 0, none⟩), .int .i64 c.n] w (AllOf c w) := by
  obtain ⟨i0, hi, hz0, hz1, hz2⟩ := info_parts info_int
  have hBw : B < w.heap.size := (Array.getElem?_eq_some_iff.1 h).1
  have H := Lib.hid h
  clear h
  go_enter Try.func18, Try.ntmps18
  go_wp2_with fail
  go_loopw [6, 7] (fun v p wr => ∃ k : Nat, k ≤ c.n ∧ p = .int .i64 k ∧ wr.ownsRow w.heap.size 3 1 v k (firstOf c.a k) ∧ Below w.heap.size w wr) (fun _ p _ => c.n - (intOf p).toNat)
  case atStart => exact ⟨0, by omega, rfl, World.ownsRow_nil _ _ _ _, Below.refl _ _⟩
  case round =>
    obtain ⟨k, hk, rfl, hown, hB⟩ := hrel
    have hBs := hB.size
    by_cases hlt : k < c.n
    · have XA := Lib.hid (at_in (B := B) hn h7 k hlt (w := wr) ((hB.block B hBw).trans H.out))
      go_wp2_with fail
      refine XA.out.mono ?_
      rintro e w2 ⟨rfl, rfl⟩
      go_wp2_with (at_builtin; refine wpList_append_own _ rfl _ _ 22 rfl w.heap.size 3 i0 (.int .i64 0) 1 8 Try.underlying22 hi hz0 hz1 hz2 rfl (by decide) _ _ _ rfl (hown.alloc _) ⟨wr.heap.size, 0, none⟩ 1 1 [.int .i64 (c.a k)] rfl rfl (new_at _ _ _) (one_int _ _) (by unfold maxLen; omega) (by omega) (by simp; omega) ?_)
      intro v' w1 hown' hgr _
      have hB1 := grew hB hown hgr
      rw [first_more] at hown'
      have HO := Lib.hid hown'
      clear hown' hgr hown
      go_wp2
      go_roundw
      case rel => exact ⟨k + 1, by omega, by go_num, HO.out, hB1⟩
      case measure => simp [intOf]; omega
    · obtain rfl : k = c.n := by omega
      have HD := Lib.hid (all_done hn hown hB)
      clear hown
      go_wp2
      go_ret2
      exact HD.out
end Go.Proofs.Ytahcfhdehdbnmaa
