/- The contracts of packs: Epoch, Stream, Length, Log. -/
import Derived.Test.YtnekpehgaojkaaaDoorC10c
import Derived.WalkLawsBesides
namespace Go.Proofs.YtnekpehgaojkaaaDoor
open Go.RowKit

theorem EntsAt.below {B : Nat} {w w' : World} {v : Value} {es : List Ent} (h : EntsAt B w v es) (hb : Below w.heap.size w w') : EntsAt B w' v es := by
  obtain ⟨a, cap, hv, hc⟩ := h
  refine ⟨a, cap, hv, fun hl => ?_⟩
  obtain ⟨b, off, ha, hlt, hs, hcell⟩ := hc hl
  exact ⟨b, off, ha, Nat.lt_of_lt_of_le hlt hb.size, hs.imp_right (fun hn cur fr => by rw [hb.block b hlt]; exact hn cur fr), fun j hj => entAt_of (hcell j hj) (hb.block b hlt)⟩

/-- Within these two? -/
def within (n a b : Int) : Bool := decide (a ≤ n) && decide (n ≤ b)
theorem within_yes {n a b : Int} (h1 : a ≤ n) (h2 : n ≤ b) : within n a b = true := by unfold within; rw [decide_eq_true h1, decide_eq_true h2]; rfl
theorem within_no {n a b : Int} (h : n < a ∨ b < n) : within n a b = false := by
  unfold within
  rcases h with h | h
  · rw [decide_eq_false (show ¬ a ≤ n by omega)]; rfl
  · rw [decide_eq_false (show ¬ n ≤ b by omega)]; simp
theorem within_iff {n a b : Int} : within n a b = true ↔ a ≤ n ∧ n ≤ b := by unfold within; simp
theorem ret_bool {a b : Bool} (h : a = b) : Ending.returned (.bool a) = .returned (.bool b) := by rw [h]

theorem epoch_any (n least : Int) (w : World) : Calls Tryd.prog 54 #[.int .i64 n, .int .i64 least] w fun e w' => e = .returned (.bool (within n least 1048576)) ∧ w = w' := by
  by_cases h1 : least ≤ n
  · by_cases h2 : n ≤ 1048576
    · have H := Lib.hid (within_yes h1 h2)
      go_enter Tryd.func54, Tryd.ntmps54
      go_wp2
      go_ret
      exact ⟨ret_bool H.out.symm, rfl⟩
    · have H := Lib.hid (within_no (a := least) (.inr (show 1048576 < n by omega)))
      have d : decide (n ≤ 1048576) = false := decide_eq_false h2
      go_enter Tryd.func54, Tryd.ntmps54
      go_wp2
      go_ret
      exact ⟨ret_bool H.out.symm, rfl⟩
  · have H := Lib.hid (within_no (b := 1048576) (.inl (show n < least by omega)))
    have d : decide (least ≤ n) = false := decide_eq_false h1
    go_enter Tryd.func54, Tryd.ntmps54
    go_wp2
    go_ret
    exact ⟨ret_bool H.out.symm, rfl⟩
theorem length_any (n : Int) (w : World) : Calls Tryd.prog 51 #[.int .i64 n] w fun e w' => e = .returned (.bool (within n 0 64)) ∧ w = w' := by
  by_cases h1 : 0 ≤ n
  · by_cases h2 : n ≤ 64
    · have H := Lib.hid (within_yes h1 h2)
      go_enter Tryd.func51, Tryd.ntmps51
      go_wp2
      go_ret
      exact ⟨ret_bool H.out.symm, rfl⟩
    · have H := Lib.hid (within_no (a := 0) (.inr (show 64 < n by omega)))
      have d : decide (n ≤ 64) = false := decide_eq_false h2
      go_enter Tryd.func51, Tryd.ntmps51
      go_wp2
      go_ret
      exact ⟨ret_bool H.out.symm, rfl⟩
  · have H := Lib.hid (within_no (b := 64) (.inl (show n < 0 by omega)))
    have d : decide (0 ≤ n) = false := decide_eq_false h1
    go_enter Tryd.func51, Tryd.ntmps51
    go_wp2
    go_ret
    exact ⟨ret_bool H.out.symm, rfl⟩

/-- May an entry be, of a stream? -/
def entGood (s : Int) (x : Ent) : Bool := within x.epoch 1 1048576 && decide (x.ord.stream = s) && mayB x.ord
theorem check_is (o : Ord) (w : World) : Calls Tryd.prog 18 #[.agg #[.int .i64 o.id, .int .i64 o.stream, .int .i64 o.expect, .int .i64 o.kind, .int .i64 o.arg]] w fun e w' => e = .returned (.int .i64 (if mayB o then 0 else 2)) ∧ Below w.heap.size w w' := check_any o w

set_option maxRecDepth 100000 in
set_option maxHeartbeats 2000000 in
theorem logFn_any {P : Nat} {w : World} (s : Int) (x : Ent) (hp : w.cell? ⟨P, 0, none⟩ = some (.int .i64 s)) :
    Calls Tryd.prog 53 #[.agg #[.int .i64 x.epoch, .int .i64 x.ord.id, .int .i64 x.ord.stream, .int .i64 x.ord.expect, .int .i64 x.ord.kind, .int .i64 x.ord.arg], .pointer (some ⟨P, 0, none⟩)] w fun e w' => e = .returned (.bool (!entGood s x)) ∧ Below w.heap.size w w' := by
  obtain ⟨w1, e1, b1, s1, h1⟩ := boxed w (entCells x) 30
  have hP : P < w.heap.size := World.block_lt_of_cell? w ⟨P, 0, none⟩ hp
  have E1 := Lib.hid (show w.alloc (.cells #[.int .i64 x.epoch, .int .i64 x.ord.id, .int .i64 x.ord.stream, .int .i64 x.ord.expect, .int .i64 x.ord.kind, .int .i64 x.ord.arg] 30) = w1 from e1)
  obtain ⟨c0, c1, c2, c3, c4, c5⟩ := ent_cells h1
  have hp1 : w1.cell? ⟨P, 0, none⟩ = some (.int .i64 s) := (b1.cell (p := ⟨P, 0, none⟩) hP).trans hp
  have HEp := Lib.hid (epoch_any x.epoch 1)
  have HG := Lib.hid (show entGood s x = (within x.epoch 1 1048576 && decide (x.ord.stream = s) && mayB x.ord) from rfl)
  have HC := Lib.hid (check_is x.ord)
  clear e1 h1 hp
  generalize within x.epoch 1 1048576 = ep at *
  generalize entGood s x = good at *
  cases ep with
  | false =>
    go_enter Tryd.func53, Tryd.ntmps53
    go_wp2_with fail
    rw [E1.out]
    refine (HEp.out _).mono ?_
    rintro e w2 ⟨rfl, rfl⟩
    go_wp2
    go_ret
    exact ⟨ret_bool (by rw [HG.out]; rfl), b1⟩
  | true =>
    by_cases hs : x.ord.stream = s
    · have d : (x.ord.stream != s) = false := by rw [bne_eq_false_iff_eq]; exact hs
      have HS := Lib.hid hs
      clear hs
      generalize mayB x.ord = my at *
      cases my with
      | true =>
        go_enter Tryd.func53, Tryd.ntmps53
        go_wp2_with fail
        rw [E1.out]
        refine (HEp.out _).mono ?_
        rintro e w2 ⟨rfl, rfl⟩
        go_wp2_with fail
        refine (HC.out _).mono ?_
        rintro e w2 ⟨rfl, b2⟩
        go_wp2
        go_ret
        exact ⟨ret_bool (by rw [HG.out, HS.out]; simp), b1.trans (b2.mono b1.size)⟩
      | false =>
        go_enter Tryd.func53, Tryd.ntmps53
        go_wp2_with fail
        rw [E1.out]
        refine (HEp.out _).mono ?_
        rintro e w2 ⟨rfl, rfl⟩
        go_wp2_with fail
        refine (HC.out _).mono ?_
        rintro e w2 ⟨rfl, b2⟩
        go_wp2
        go_ret
        exact ⟨ret_bool (by rw [HG.out, HS.out]; simp), b1.trans (b2.mono b1.size)⟩
    · have d : (x.ord.stream != s) = true := by rw [bne_iff_ne]; exact hs
      have HS := Lib.hid hs
      clear hs
      go_enter Tryd.func53, Tryd.ntmps53
      go_wp2_with fail
      rw [E1.out]
      refine (HEp.out _).mono ?_
      rintro e w2 ⟨rfl, rfl⟩
      go_wp2
      go_ret
      exact ⟨ret_bool (by rw [HG.out, decide_eq_false HS.out]; simp), b1⟩
end Go.Proofs.YtnekpehgaojkaaaDoor
