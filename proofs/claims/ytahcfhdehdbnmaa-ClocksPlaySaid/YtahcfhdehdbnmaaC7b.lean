/- The contracts of clocks: Max, Min, Skew. -/
import Derived.Test.YtahcfhdehdbnmaaC7a
namespace Go.Proofs.Ytahcfhdehdbnmaa
open Go.RowKit

/-- The greatest, and the least, of z 0 .. z k. -/
def maxTo (z : Nat → Int) : Nat → Int
  | 0 => z 0
  | k + 1 => if maxTo z k < z (k + 1) then z (k + 1) else maxTo z k
def minTo (z : Nat → Int) : Nat → Int
  | 0 => z 0
  | k + 1 => if z (k + 1) < minTo z k then z (k + 1) else minTo z k
theorem ret_int {k : IntKind} {a b : Int} (h : a = b) : Ending.returned (.int k a) = .returned (.int k b) := by rw [h]

set_option maxHeartbeats 1000000 in
theorem max_any (b off n cap : Nat) (z : Nat → Int) (h1 : 1 ≤ n) (h7 : n ≤ 7) {w : World} (hc : ∀ k, k < n → w.cell? ⟨b, off + k, none⟩ = some (.int .i64 (z k))) :
    Calls Try.prog 22 #[.slice (some ⟨b, off, none⟩) n cap] w fun e w' => e = .returned (.int .i64 (maxTo z (n - 1))) ∧ w = w' := by
  have HC := Lib.hid hc
  have c0 : w.cell? ⟨b, off, none⟩ = some (.int .i64 (z 0)) := hc 0 (by omega)
  clear hc
  go_enter Try.func22, Try.ntmps22
  go_wp2
  go_loop [3, 4] (fun m i => ∃ k : Nat, k + 1 ≤ n ∧ i = .int .i64 ((k + 1 : Nat) : Int) ∧ m = .int .i64 (maxTo z k)) (fun _ i => n - (intOf i).toNat)
  case atStart => exact ⟨0, by omega, rfl, rfl⟩
  case round =>
    obtain ⟨k, hk, rfl, rfl⟩ := hrel
    by_cases hlt : k + 1 < n
    · have ck := HC.out (k + 1) hlt
      go_wp2
      go_round
      case rel => exact ⟨k + 1, by omega, by go_num, rfl⟩
      case measure => simp [intOf]; omega
    · obtain rfl : n = k + 1 := by omega
      go_wp2
      go_ret
      exact ⟨rfl, rfl⟩
set_option maxHeartbeats 1000000 in
theorem min_any (b off n cap : Nat) (z : Nat → Int) (h1 : 1 ≤ n) (h7 : n ≤ 7) {w : World} (hc : ∀ k, k < n → w.cell? ⟨b, off + k, none⟩ = some (.int .i64 (z k))) :
    Calls Try.prog 23 #[.slice (some ⟨b, off, none⟩) n cap] w fun e w' => e = .returned (.int .i64 (minTo z (n - 1))) ∧ w = w' := by
  have HC := Lib.hid hc
  have c0 : w.cell? ⟨b, off, none⟩ = some (.int .i64 (z 0)) := hc 0 (by omega)
  clear hc
  go_enter Try.func23, Try.ntmps23
  go_wp2
  go_loop [3, 4] (fun m i => ∃ k : Nat, k + 1 ≤ n ∧ i = .int .i64 ((k + 1 : Nat) : Int) ∧ m = .int .i64 (minTo z k)) (fun _ i => n - (intOf i).toNat)
  case atStart => exact ⟨0, by omega, rfl, rfl⟩
  case round =>
    obtain ⟨k, hk, rfl, rfl⟩ := hrel
    by_cases hlt : k + 1 < n
    · have ck := HC.out (k + 1) hlt
      go_wp2
      go_round
      case rel => exact ⟨k + 1, by omega, by go_num, rfl⟩
      case measure => simp [intOf]; omega
    · obtain rfl : n = k + 1 := by omega
      go_wp2
      go_ret
      exact ⟨rfl, rfl⟩

theorem maxTo_le (z : Nat → Int) (M : Int) : ∀ k, (∀ j, j ≤ k → z j ≤ M) → maxTo z k ≤ M
  | 0, h => h 0 (by omega)
  | k + 1, h => by
    have h1 := maxTo_le z M k (fun j hj => h j (by omega))
    have h2 := h (k + 1) (by omega)
    unfold maxTo
    split <;> omega
theorem le_maxTo (z : Nat → Int) : ∀ k j, j ≤ k → z j ≤ maxTo z k
  | 0, j, h => by obtain rfl : j = 0 := by omega
                  exact Int.le_refl _
  | k + 1, j, h => by
    unfold maxTo
    by_cases e : j = k + 1
    · subst e; split <;> omega
    · have := le_maxTo z k j (by omega)
      split <;> omega
theorem maxTo_is (z : Nat → Int) : ∀ k, ∃ j, j ≤ k ∧ maxTo z k = z j
  | 0 => ⟨0, by omega, rfl⟩
  | k + 1 => by
    obtain ⟨j, h1, h2⟩ := maxTo_is z k
    unfold maxTo
    split
    · exact ⟨k + 1, by omega, rfl⟩
    · exact ⟨j, by omega, h2⟩
theorem minTo_le (z : Nat → Int) : ∀ k j, j ≤ k → minTo z k ≤ z j
  | 0, j, h => by obtain rfl : j = 0 := by omega
                  exact Int.le_refl _
  | k + 1, j, h => by
    unfold minTo
    by_cases e : j = k + 1
    · subst e; split <;> omega
    · have := minTo_le z k j (by omega)
      split <;> omega
theorem minTo_is (z : Nat → Int) : ∀ k, ∃ j, j ≤ k ∧ minTo z k = z j
  | 0 => ⟨0, by omega, rfl⟩
  | k + 1 => by
    obtain ⟨j, h1, h2⟩ := minTo_is z k
    unfold minTo
    split
    · exact ⟨k + 1, by omega, rfl⟩
    · exact ⟨j, by omega, h2⟩
/-- How far the clocks are apart. -/
def skew (n : Nat) (z : Nat → Int) : Int := maxTo z (n - 1) - minTo z (n - 1)
/-- No clock stands beyond what may be. -/
def Low (n : Nat) (z : Nat → Int) : Prop := ∀ j, j < n → 0 ≤ z j ∧ z j ≤ 1073741824
theorem low_max {n : Nat} {z : Nat → Int} (h : Low n z) (h1 : 1 ≤ n) : 0 ≤ maxTo z (n - 1) ∧ maxTo z (n - 1) ≤ 1073741824 := by
  obtain ⟨j, hj, e⟩ := maxTo_is z (n - 1)
  have := h j (by omega)
  omega
theorem low_min {n : Nat} {z : Nat → Int} (h : Low n z) (h1 : 1 ≤ n) : 0 ≤ minTo z (n - 1) ∧ minTo z (n - 1) ≤ 1073741824 := by
  obtain ⟨j, hj, e⟩ := minTo_is z (n - 1)
  have := h j (by omega)
  omega
theorem clkAt_drawn {w : World} {B d : Nat} {c : Clk} (h : clkAt w B c) : clkAt (w.drewN d) B c := h

set_option maxHeartbeats 2000000 in
theorem skew_in {B : Nat} {c : Clk} (hn : 2 ≤ c.n) (h7 : c.n ≤ 7) (hl : Low c.n c.a) {w : World} (h : clkAt w B c) :
    Calls Try.prog 13 #[.pointer (some ⟨B, 0, none⟩)] w fun e w' => e = .returned (.int .i64 (skew c.n c.a)) ∧ ∃ d, w' = w.drewN d := by
  have HA := Lib.hid (ask_in hn 0 (by omega) h)
  have H := Lib.hid h
  have m1 := low_max hl (by omega)
  have m2 := low_min hl (by omega)
  have HM := Lib.hid (fun d => max_any B 1 c.n 7 c.a (by omega) (by omega) (w := World.drewN w d) (fun k hk => clk_cell (clkAt_drawn h) k (by omega)))
  have HI := Lib.hid (fun d => min_any B 1 c.n 7 c.a (by omega) (by omega) (w := World.drewN w d) (fun k hk => clk_cell (clkAt_drawn h) k (by omega)))
  obtain ⟨c0, _, _, _, _, _, _, _, _⟩ := clk_cells h
  have hn0 : (0 : Int) ≤ c.n := by omega
  have hn7 : (c.n : Int) ≤ 7 := by omega
  clear h hl
  go_enter Try.func13, Try.ntmps13
  go_wp2_with fail
  refine HA.out.mono ?_
  rintro e w' ⟨rfl, rfl⟩
  go_wp2_with fail
  go_quiet (fail)
  go_wp2_with fail
  refine (HM.out nq).mono ?_
  rintro e w' ⟨rfl, rfl⟩
  go_wp2_with fail
  refine (HI.out nq).mono ?_
  rintro e w' ⟨rfl, rfl⟩
  go_wp2
  go_ret
  exact ⟨rfl, nq, rfl⟩
end Go.Proofs.Ytahcfhdehdbnmaa
