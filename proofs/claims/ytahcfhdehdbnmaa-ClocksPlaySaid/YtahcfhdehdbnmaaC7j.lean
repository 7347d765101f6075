/- The contracts of the reference's clocks. -/
import Derived.Test.YtahcfhdehdbnmaaC7i
import Derived.OwnWalk
namespace Go.Proofs.Ytahcfhdehdbnmaa
open Go.RowKit

/-- The reference's clocks lie in block R, their list in block L. -/
def refAt (w : World) (R L : Nat) (c : Clk) : Prop :=
  w.heap[R]? = some (.cells #[.slice (some ⟨L, 0, none⟩) c.n c.n, .int .i64 c.worst] 34 (0, 0)) ∧ L ≠ R ∧ ∃ arr, w.heap[L]? = some (.cells arr 3 (0, 0)) ∧ arr.toList = firstOf c.a c.n
theorem ref_cells {w : World} {R L : Nat} {c : Clk} (h : refAt w R L c) : w.cell? ⟨R, 0, none⟩ = some (.slice (some ⟨L, 0, none⟩) c.n c.n) ∧ w.cell? ⟨R, 1, none⟩ = some (.int .i64 c.worst) ∧ (∀ j, j < c.n → w.cell? ⟨L, j, none⟩ = some (.int .i64 (c.a j))) ∧
    (∀ j, w.frozen? ⟨R, j, none⟩ = false) ∧ ∀ j, w.frozen? ⟨L, j, none⟩ = false := by
  obtain ⟨h1, _, arr, h2, h3⟩ := h
  refine ⟨by simp [World.cell?, h1], by simp [World.cell?, h1], fun j hj => ?_, fun j => by simp [World.frozen?, h1], fun j => by simp [World.frozen?, h2]⟩
  have := first_get c.a c.n j hj
  rw [← h3] at this
  simpa [World.cell?, h2] using this
theorem ref_drawn {w : World} {R L d : Nat} {c : Clk} (h : refAt w R L c) : refAt (w.drewN d) R L c := h
theorem ref_kept {w w' : World} {R L : Nat} {c : Clk} (h : refAt w R L c) (h1 : w'.heap[R]? = w.heap[R]?) (h2 : w'.heap[L]? = w.heap[L]?) : refAt w' R L c := by
  obtain ⟨a, b, arr, d, e⟩ := h
  exact ⟨h1.trans a, b, arr, h2.trans d, e⟩
theorem ref_lt {w : World} {R L : Nat} {c : Clk} (h : refAt w R L c) : R < w.heap.size ∧ L < w.heap.size := by
  obtain ⟨a, _, arr, d, _⟩ := h
  exact ⟨(Array.getElem?_eq_some_iff.1 a).1, (Array.getElem?_eq_some_iff.1 d).1⟩
theorem ref_set {w : World} {R L : Nat} {c : Clk} (h : refAt w R L c) (s : Nat) (x : Int) : refAt (w.setCell ⟨L, s, none⟩ (.int .i64 x)) R L ⟨c.n, upd c.a s x, c.worst⟩ := by
  obtain ⟨h1, h2, arr, h3, h4⟩ := h
  refine ⟨(Below.heap_setCell _ _ _ _ (fun e => h2 e.symm)).trans h1, h2, arr.setIfInBounds s (.int .i64 x), ?_, ?_⟩
  · simp [World.setCell, Array.getElem?_modify, h3]
  · rw [Array.toList_setIfInBounds, h4]
    apply List.ext_getElem?
    intro j
    rw [List.getElem?_set]
    by_cases e : s = j
    · subst e
      by_cases hj : s < c.n
      · simp [firstOf, hj, upd]
      · simp [firstOf, hj]
    · rw [if_neg e]
      have e' : ¬ j = s := fun h => e h.symm
      by_cases hj : j < c.n
      · simp [firstOf, hj, upd, e']
      · simp [firstOf, hj]
theorem ref_setw {w : World} {R L : Nat} {c : Clk} (h : refAt w R L c) (x : Int) : refAt (w.setCell ⟨R, 1, none⟩ (.int .i64 x)) R L ⟨c.n, c.a, x⟩ := by
  obtain ⟨h1, h2, arr, h3, h4⟩ := h
  refine ⟨?_, h2, arr, (Below.heap_setCell _ _ _ _ h2).trans h3, h4⟩
  simp [World.setCell, Array.getElem?_modify, h1]
/-- Nothing but blocks R and L is written. -/
structure Two (R L : Nat) (w w' : World) : Prop where
  os : w'.os = w.os
  tape : w'.tape = w.tape
  output : w'.output = w.output
  size : w.heap.size ≤ w'.heap.size
  block : ∀ k, k < w.heap.size → k ≠ R → k ≠ L → w'.heap[k]? = w.heap[k]?
theorem two_set (w : World) (R L B o : Nat) (v : Value) (hb : B = R ∨ B = L) : Two R L w (w.setCell ⟨B, o, none⟩ v) :=
  ⟨rfl, rfl, rfl, by simp [World.setCell], fun k _ h1 h2 => Below.heap_setCell _ _ _ _ (fun e => by
    have e' : k = B := e
    rcases hb with rfl | rfl
    · exact h1 e'
    · exact h2 e')⟩
theorem two_trans {a b c : World} {R L : Nat} (h : Two R L a b) (k : Two R L b c) : Two R L a c :=
  ⟨k.os.trans h.os, k.tape.trans h.tape, k.output.trans h.output, Nat.le_trans h.size k.size, fun i hi h1 h2 => (k.block i (Nat.lt_of_lt_of_le hi h.size) h1 h2).trans (h.block i hi h1 h2)⟩
theorem two_drawn {a b : World} {R L : Nat} (h : Two R L a b) (d : Nat) : Two R L a (b.drewN d) := ⟨h.os, h.tape, h.output, h.size, h.block⟩
theorem below_two {a b c : World} {B R L : Nat} (h : Below B a b) (k : Two R L b c) (hb : B ≤ b.heap.size) (h1 : B ≤ R) (h2 : B ≤ L) : Below B a c :=
  h.trans ⟨k.os, k.tape, k.output, k.size, fun i hi => k.block i (by omega) (by omega) (by omega)⟩

theorem made_zero (n : Nat) : (madeCells #[.int .i64 0] n).toList = firstOf (newClk n).a n := by
  apply List.ext_getElem?
  intro j
  by_cases hj : j < n
  · simp [firstOf, hj, newClk, madeCells, Nat.mod_one]
  · simp [firstOf, hj, madeCells]
/-- What the reference's New answers. -/
def RefNew (n : Nat) (w : World) (e : Ending) (w' : World) : Prop :=
  ∃ R L, e = .returned (.tuple #[.pointer (some ⟨R, 0, none⟩), .int .i64 0]) ∧ Below w.heap.size w w' ∧ w.heap.size ≤ R ∧ w.heap.size ≤ L ∧ refAt w' R L (newClk n)
theorem refNew_done {n : Nat} {w w1 : World} (h : w1.ownsRow w.heap.size 3 1 (.slice (some ⟨w.heap.size, 0, none⟩) n n) n (madeCells #[.int .i64 0] n).toList) (hn : 1 ≤ n) (hg : w.grownBy w1 none) :
    RefNew n w (.returned (.tuple #[.pointer (some ⟨w1.heap.size, 0, none⟩), .int .i64 0])) (w1.alloc (.cells #[.slice (some ⟨w.heap.size, 0, none⟩) n n, .int .i64 0] 34)) := by
  obtain ⟨_, h⟩ := h
  rcases h with ⟨_, h0⟩ | ⟨g, cap, cur, e, hb, hh, _, _, hs, ht⟩
  · omega
  · simp only [Value.slice.injEq, Option.some.injEq, Addr.mk.injEq, and_true, true_and] at e
    obtain ⟨e1, e2⟩ := e
    subst e1; subst e2
    have hlt := (Array.getElem?_eq_some_iff.1 hh).1
    refine ⟨w1.heap.size, w.heap.size, rfl, ((Below.refl _ _).grown hg (Nat.le_refl _) (fun k h => by cases h)).alloc hg.size _, hg.size, Nat.le_refl _, World.alloc_heap_new w1 _, by omega, cur, (Below.heap_alloc _ _ _ hlt).trans hh, ?_⟩
    rw [show (newClk n).n = n from rfl, ← made_zero, ← ht, List.take_of_length_le (by rw [Array.length_toList, hs]; exact Nat.le_refl _)]
set_option maxRecDepth 100000 in
set_option maxHeartbeats 2000000 in
theorem refNew_yes (n : Nat) (h1 : 2 ≤ n) (h2 : n ≤ 7) (w : World) : Calls Try.prog 9 #[.int .i64 n] w (RefNew n w) := by
  obtain ⟨i0, hi, hz0, hz1, hz2⟩ := info_parts info_int
  go_enter Try.func9, Try.ntmps9
  go_wp2_with fail
  refine (refSites_yes n (by omega) (by omega) _).mono ?_
  rintro e w' ⟨rfl, rfl⟩
  go_wp2_with (at_make; refine wpList_make_full _ rfl _ _ 22 rfl w.heap.size 3 i0 (.int .i64 0) 1 Try.underlying22 hi hz0 hz1 _ _ _ _ n rfl rfl rfl rfl ?b2 ?b3 (Nat.le_refl _) ?_)
  case b2 => rw [hz2]; omega
  case b3 => unfold maxLen; omega
  intro w1 hown hgr
  have HD := Lib.hid (refNew_done hown (by omega) hgr)
  clear hown hgr
  go_wp2
  go_ret2
  exact HD.out
theorem refNew_no (n : Int) (h : n < 2 ∨ 7 < n) (w : World) : Calls Try.prog 9 #[.int .i64 n] w fun e w' => e = .returned (.tuple #[.pointer none, .int .i64 2]) ∧ w = w' := by
  go_enter Try.func9, Try.ntmps9
  go_wp2_with fail
  refine (refSites_no n h _).mono ?_
  rintro e w' ⟨rfl, rfl⟩
  go_wp2
  go_ret2
  exact ⟨rfl, rfl⟩

theorem refAt_in {R L : Nat} {c : Clk} (s : Nat) (hs : s < c.n) {w : World} (h : refAt w R L c) :
    Calls Try.prog 17 #[.pointer (some ⟨R, 0, none⟩), .int .i64 s] w fun e w' => e = .returned (.tuple #[.int .i64 (c.a s), .int .i64 0]) ∧ w = w' := by
  obtain ⟨c0, c1, c2, _, _⟩ := ref_cells h
  have hc := c2 s hs
  clear c2 h
  go_enter Try.func17, Try.ntmps17
  go_wp2
  go_ret2
  exact ⟨rfl, rfl⟩
theorem refAt_out {R L : Nat} {c : Clk} (s : Int) (hs : s < 0 ∨ (c.n : Int) ≤ s) {w : World} (h : refAt w R L c) :
    Calls Try.prog 17 #[.pointer (some ⟨R, 0, none⟩), .int .i64 s] w fun e w' => e = .returned (.tuple #[.int .i64 0, .int .i64 2]) ∧ w = w' := by
  obtain ⟨c0, c1, c2, _, _⟩ := ref_cells h
  clear c2 h
  rcases hs with hs | hs
  · go_enter Try.func17, Try.ntmps17
    go_wp2
    go_ret2
    exact ⟨rfl, rfl⟩
  · have d : decide (s < 0) = false := decide_eq_false (by omega)
    go_enter Try.func17, Try.ntmps17
    go_wp2
    go_ret2
    exact ⟨rfl, rfl⟩

/-- m is the greatest of what has been compared so far. -/
def Upto (n : Nat) (z : Nat → Int) (m : Int) (a b : Nat) : Prop := (∀ a', a' < a → ∀ b', b' < n → z a' - z b' ≤ m) ∧ (∀ b', b' < b → z a - z b' ≤ m) ∧ ∃ a0 b0, a0 < n ∧ b0 < n ∧ z a0 - z b0 = m
theorem upto_start {n : Nat} (h : 1 ≤ n) (z : Nat → Int) : Upto n z 0 0 0 := ⟨fun _ h => absurd h (Nat.not_lt_zero _), fun _ h => absurd h (Nat.not_lt_zero _), 0, 0, h, h, by omega⟩
theorem upto_row {n : Nat} {z : Nat → Int} {m : Int} {a : Nat} (h : Upto n z m a n) : Upto n z m (a + 1) 0 :=
  ⟨fun a' ha b' hb => by
    by_cases e : a' = a
    · subst e; exact h.2.1 b' hb
    · exact h.1 a' (by omega) b' hb, fun _ h => absurd h (Nat.not_lt_zero _), h.2.2⟩
theorem upto_keep {n : Nat} {z : Nat → Int} {m : Int} {a b : Nat} (h : Upto n z m a b) (hle : ¬ m < z a - z b) : Upto n z m a (b + 1) :=
  ⟨h.1, fun b' hb => by
    by_cases e : b' = b
    · subst e; omega
    · exact h.2.1 b' (by omega), h.2.2⟩
theorem upto_more {n : Nat} {z : Nat → Int} {m : Int} {a b : Nat} (h : Upto n z m a b) (ha : a < n) (hb : b < n) (hlt : m < z a - z b) : Upto n z (z a - z b) a (b + 1) :=
  ⟨fun a' ha' b' hb' => by have := h.1 a' ha' b' hb'; omega, fun b' hb' => by
    by_cases e : b' = b
    · subst e; exact Int.le_refl _
    · have := h.2.1 b' (by omega); omega, a, b, ha, hb, rfl⟩
theorem upto_end {n : Nat} {z : Nat → Int} {m : Int} (hn : 1 ≤ n) (h : Upto n z m n 0) : m = skew n z := by
  obtain ⟨a, b, ha, hb, e⟩ := skew_is (z := z) hn
  obtain ⟨h1, _, a0, b0, ha0, hb0, e0⟩ := h
  have f1 := h1 a ha b hb
  have f2 := skew_far (z := z) a0 b0 ha0 hb0
  omega
theorem upto_low {n : Nat} {z : Nat → Int} {m : Int} {a b : Nat} (hl : Low n z) (h : Upto n z m a b) : -1073741824 ≤ m ∧ m ≤ 1073741824 := by
  obtain ⟨_, _, a0, b0, ha0, hb0, e0⟩ := h
  have := hl a0 ha0
  have := hl b0 hb0
  omega

set_option maxRecDepth 100000 in
set_option maxHeartbeats 4000000 in
theorem refSkew_in {R L : Nat} {c : Clk} (hn : 2 ≤ c.n) (h7 : c.n ≤ 7) (hl : Low c.n c.a) {w : World} (h : refAt w R L c) :
    Calls Try.prog 14 #[.pointer (some ⟨R, 0, none⟩)] w fun e w' => e = .returned (.int .i64 (skew c.n c.a)) ∧ ∃ d, w' = w.drewN d := by
  obtain ⟨c0, c1, c2, _, _⟩ := ref_cells h
  have HC := Lib.hid c2
  have HL := Lib.hid hl
  clear c2 h hl
  go_enter Try.func14, Try.ntmps14
  go_wp2_with fail
  go_loopw [3, 4] (fun t p wr => ∃ (a : Nat) (m : Int) (q : Nat), a ≤ c.n ∧ p = .int .i64 a ∧ t = .int .i64 m ∧ wr = w.drewN q ∧ Upto c.n c.a m a 0) (fun _ p _ => c.n - (intOf p).toNat)
  case atStart => exact ⟨0, 0, 0, by omega, rfl, rfl, rfl, upto_start (by omega) _⟩
  case round =>
    obtain ⟨a, m, q6, ha, rfl, rfl, rfl, hN⟩ := hrel
    have HN1 := Lib.hid hN
    clear hN
    by_cases hlt2 : a < c.n
    · go_wp2_with fail
      go_loopw [3, 5] (fun t p wr => ∃ (b : Nat) (m : Int) (q : Nat), b ≤ c.n ∧ p = .int .i64 b ∧ t = .int .i64 m ∧ wr = w.drewN q ∧ Upto c.n c.a m a b) (fun _ p _ => c.n - (intOf p).toNat)
      case atStart => exact ⟨0, m, q6, by omega, rfl, rfl, rfl, HN1.out⟩
      case round =>
        obtain ⟨b, m2, q7, hb, rfl, rfl, rfl, hN⟩ := hrel
        have HN2 := Lib.hid hN
        have hm := upto_low HL.out hN
        clear hN
        by_cases hlt3 : b < c.n
        · have ca := HC.out a hlt2
          have cb := HC.out b hlt3
          have z1 := HL.out a hlt2
          have z2 := HL.out b hlt3
          have i1 : (0 : Int) ≤ a := by omega
          have i2 : (a : Int) < c.n := by omega
          have i3 : (0 : Int) ≤ b := by omega
          have i4 : (b : Int) < c.n := by omega
          have ew := wrap_in (c.a a - c.a b) (by omega)
          by_cases hlt : m2 < c.a a - c.a b
          · have HNE := Lib.hid (upto_more HN2.out hlt2 hlt3 hlt)
            go_wp2_with fail
            go_quiet (fail)
            clear ew
            go_wp2_with fail
            go_roundw
            case rel => exact ⟨b + 1, _, _, by omega, by go_num, rfl, rfl, HNE.out⟩
            case measure => simp [intOf]; omega
          · have HNE := Lib.hid (upto_keep HN2.out hlt)
            go_wp2_with fail
            go_quiet (fail)
            clear ew
            go_wp2_with fail
            go_roundw
            case rel => exact ⟨b + 1, _, _, by omega, by go_num, rfl, rfl, HNE.out⟩
            case measure => simp [intOf]; omega
        · obtain rfl : b = c.n := by omega
          have HNE := Lib.hid (upto_row HN2.out)
          go_wp2_with fail
          go_roundw
          case rel => exact ⟨a + 1, m2, q7, by omega, by go_num, rfl, rfl, HNE.out⟩
          case measure => simp [intOf]; omega
    · obtain rfl : a = c.n := by omega
      have HE := Lib.hid (upto_end (by omega) HN1.out)
      go_wp2
      go_ret
      exact ⟨ret_int HE.out, q6, rfl⟩

set_option maxRecDepth 100000 in
set_option maxHeartbeats 2000000 in
theorem refTick_in {R L : Nat} {c : Clk} (hn : 2 ≤ c.n) (h7 : c.n ≤ 7) (hl : Low c.n c.a) (s : Nat) (hs : s < c.n) (hm : c.a s < 1073741824) {w : World} (h : refAt w R L c) :
    Calls Try.prog 12 #[.pointer (some ⟨R, 0, none⟩), .int .i64 s] w fun e w' => e = .returned (.int .i64 0) ∧ Two R L w w' ∧ refAt w' R L (c.tick s) := by
  have HA := Lib.hid (refAt_in s hs h)
  obtain ⟨c0, c1, c2, f1, f2⟩ := ref_cells h
  have hc := c2 s hs
  have hf := f2 s
  have hb := hl s hs
  have hl1 := upd_low (s := s) hl (c.a s + 1) (by omega) (by omega)
  obtain ⟨w1, e1, h1, g1⟩ : ∃ w1, w.setCell ⟨L, s, none⟩ (.int .i64 (c.a s + 1)) = w1 ∧ refAt w1 R L ⟨c.n, upd c.a s (c.a s + 1), c.worst⟩ ∧ Two R L w w1 :=
    ⟨_, rfl, ref_set h s _, two_set w R L L s _ (.inr rfl)⟩
  have E1 := Lib.hid e1
  have H1 := Lib.hid h1
  obtain ⟨_, k1, _, k2, _⟩ := ref_cells h1
  have k3 := k2 1
  have dm : (c.a s == 1073741824) = false := by rw [beq_eq_false_iff_ne]; omega
  clear c2 f1 f2 e1 h1 h k2
  go_enter Try.func12, Try.ntmps12
  go_wp2_with fail
  refine HA.out.mono ?_
  rintro e w' ⟨rfl, rfl⟩
  go_wp2_with fail
  rw [E1.out]
  go_region_with (go_at_call 14; refine (refSkew_in (c := ⟨c.n, upd c.a s (c.a s + 1), c.worst⟩) hn h7 hl1 (w := _) (by exact H1.out)).mono ?_; rintro e w' ⟨rfl, d, rfl⟩)
  all_goals
    rw [show (if c.worst < skew c.n (upd c.a s (c.a s + 1)) then skew c.n (upd c.a s (c.a s + 1)) else c.worst) = worse c.worst (skew c.n (upd c.a s (c.a s + 1))) from rfl]
    go_wp2
    go_ret
    exact ⟨rfl, two_trans (two_drawn g1 _) (two_set _ R L R 1 _ (.inl rfl)), ref_setw (ref_drawn H1.out) _⟩
theorem refTick_out {R L : Nat} {c : Clk} (s : Int) (hs : s < 0 ∨ (c.n : Int) ≤ s) {w : World} (h : refAt w R L c) :
    Calls Try.prog 12 #[.pointer (some ⟨R, 0, none⟩), .int .i64 s] w fun e w' => e = .returned (.int .i64 2) ∧ w = w' := by
  have HA := Lib.hid (refAt_out s hs h)
  clear h
  go_enter Try.func12, Try.ntmps12
  go_wp2_with fail
  refine HA.out.mono ?_
  rintro e w' ⟨rfl, rfl⟩
  go_wp2
  go_ret
  exact ⟨rfl, rfl⟩
end Go.Proofs.Ytahcfhdehdbnmaa
