/- The contracts of orders: fields, Check. -/
import Derived.Test.YtnekpehgaojkaaaDoorC1d
import Derived.BigQuiet
import Derived.WalkSmall
import Derived.StillTailTactics
import Derived.Lib.QuietBelow
namespace Go.Proofs.YtnekpehgaojkaaaDoor
open Go.RowKit

def fieldCells (B : Nat) : Array Value := #[.pointer (some ⟨B, 0, none⟩), .int .i64 1, .int .i64 2147483647, .pointer (some ⟨B, 1, none⟩), .int .i64 0, .int .i64 3, .pointer (some ⟨B, 2, none⟩), .int .i64 (-1), .int .i64 2147483647,
  .pointer (some ⟨B, 3, none⟩), .int .i64 1, .int .i64 4, .pointer (some ⟨B, 4, none⟩), .int .i64 (-1048576), .int .i64 1048576]

set_option maxRecDepth 100000 in
set_option maxHeartbeats 1000000 in
theorem fields_any (B : Nat) (w : World) (c0 c1 c2 c3 c4 : Value) (_h0 : w.cell? ⟨B, 0, none⟩ = some c0) (_h1 : w.cell? ⟨B, 1, none⟩ = some c1) (_h2 : w.cell? ⟨B, 2, none⟩ = some c2) (_h3 : w.cell? ⟨B, 3, none⟩ = some c3) (_h4 : w.cell? ⟨B, 4, none⟩ = some c4) :
    Calls Tryd.prog 36 #[.pointer (some ⟨B, 0, none⟩)] w fun e w' => e = .returned (.slice (some ⟨w.heap.size, 0, none⟩) 5 5) ∧ Below w.heap.size w w' ∧ w'.heap.size = w.heap.size + 1 ∧ w'.heap[w.heap.size]? = some (.cells (fieldCells B) 73 (0, 0)) := by
  go_enter Tryd.func36, Tryd.ntmps36
  go_wp2
  go_still_tail 20, (by kernel_rfl)
  change wpList _ _ _ _ _ w.drew
  have hb : Below w.heap.size w w.drew := (Below.refl _ _).drew
  have hz : w.drew.heap.size = w.heap.size := rfl
  go_wp2
  go_ret
  exact ⟨rfl, ((Below.refl w.heap.size w).alloc (Nat.le_refl _) _).drew, by simp, World.alloc_heap_new w _⟩

def least : Nat → Int | 0 => 1 | 1 => 0 | 2 => -1 | 3 => 1 | _ => -1048576
def most : Nat → Int | 0 => 2147483647 | 1 => 3 | 2 => 2147483647 | 3 => 4 | _ => 1048576
theorem field_cells {w : World} {B F k : Nat} (h : w.heap[F]? = some (.cells (fieldCells B) 73 (0, 0))) (hk : k < 5) :
    w.cell? ⟨F, k * 3, none⟩ = some (.pointer (some ⟨B, k, none⟩)) ∧ w.cell? ⟨F, k * 3 + 1, none⟩ = some (.int .i64 (least k)) ∧ w.cell? ⟨F, k * 3 + 2, none⟩ = some (.int .i64 (most k)) := by
  have hc : ∀ j, w.cell? ⟨F, j, none⟩ = (fieldCells B)[j]? := fun j => by simp [World.cell?, h]
  rw [hc, hc, hc]
  match k, hk with
  | 0, _ => exact ⟨rfl, rfl, rfl⟩
  | 1, _ => exact ⟨rfl, rfl, rfl⟩
  | 2, _ => exact ⟨rfl, rfl, rfl⟩
  | 3, _ => exact ⟨rfl, rfl, rfl⟩
  | 4, _ => exact ⟨rfl, rfl, rfl⟩

/-- An order's five numbers. -/
structure Ord where
  id : Int
  stream : Int
  expect : Int
  kind : Int
  arg : Int
def Ord.fld (o : Ord) : Nat → Int | 0 => o.id | 1 => o.stream | 2 => o.expect | 3 => o.kind | _ => o.arg
def inField (k : Nat) (x : Int) : Bool := decide (least k ≤ x) && decide (x ≤ most k)
/-- May it be? -/
def mayB (o : Ord) : Bool := inField 0 o.id && inField 1 o.stream && inField 2 o.expect && inField 3 o.kind && inField 4 o.arg
def errno (b : Bool) (e : Int) : Int := if b then 0 else e
theorem mayB_no {o : Ord} {k : Nat} (hk : k < 5) (h : inField k (o.fld k) = false) : mayB o = false := by
  unfold mayB
  match k, hk with
  | 0, _ => rw [show inField 0 o.id = false from h]; simp
  | 1, _ => rw [show inField 1 o.stream = false from h]; simp
  | 2, _ => rw [show inField 2 o.expect = false from h]; simp
  | 3, _ => rw [show inField 3 o.kind = false from h]; simp
  | 4, _ => rw [show inField 4 o.arg = false from h]; simp
theorem mayB_yes {o : Ord} (h : ∀ j, j < 5 → inField j (o.fld j) = true) : mayB o = true := by
  unfold mayB
  rw [show inField 0 o.id = true from h 0 (by decide), show inField 1 o.stream = true from h 1 (by decide), show inField 2 o.expect = true from h 2 (by decide), show inField 3 o.kind = true from h 3 (by decide), show inField 4 o.arg = true from h 4 (by decide)]
  rfl
theorem ret_err {b c : Int} (h : b = c) : Ending.returned (.int .i64 b) = .returned (.int .i64 c) := by rw [h]

set_option maxRecDepth 100000 in
set_option maxHeartbeats 1000000 in
theorem check_any (o : Ord) (w : World) :
    Calls Tryd.prog 18 #[.agg #[.int .i64 o.id, .int .i64 o.stream, .int .i64 o.expect, .int .i64 o.kind, .int .i64 o.arg]] w fun e w' => e = .returned (.int .i64 (errno (mayB o) 2)) ∧ Below w.heap.size w w' := by
  have HF := Lib.hid (fields_any w.heap.size (w.alloc (.cells #[.int .i64 o.id, .int .i64 o.stream, .int .i64 o.expect, .int .i64 o.kind, .int .i64 o.arg] 24)) (.int .i64 o.id) (.int .i64 o.stream) (.int .i64 o.expect) (.int .i64 o.kind) (.int .i64 o.arg)
    (by rw [World.cell?_alloc_mark]; rfl) (by rw [World.cell?_alloc_mark]; rfl) (by rw [World.cell?_alloc_mark]; rfl) (by rw [World.cell?_alloc_mark]; rfl) (by rw [World.cell?_alloc_mark]; rfl))
  rw [World.size_alloc] at HF
  have hb1 : Below w.heap.size w (w.alloc (.cells #[.int .i64 o.id, .int .i64 o.stream, .int .i64 o.expect, .int .i64 o.kind, .int .i64 o.arg] 24)) := (Below.refl _ _).alloc (Nat.le_refl _) _
  have HO := Lib.hid (fun k (h : k < 5) => show (w.alloc (.cells #[.int .i64 o.id, .int .i64 o.stream, .int .i64 o.expect, .int .i64 o.kind, .int .i64 o.arg] 24)).cell? ⟨w.heap.size, k, none⟩ = some (.int .i64 (o.fld k)) by
    rw [World.cell?_alloc_mark]
    match k, h with
    | 0, _ => rfl
    | 1, _ => rfl
    | 2, _ => rfl
    | 3, _ => rfl
    | 4, _ => rfl)
  go_enter Tryd.func18, Tryd.ntmps18
  go_wp2_with fail
  refine HF.out.mono ?_
  rintro e w2 ⟨rfl, hb2, hs2, hf2⟩
  have hB2 := hb1.trans (hb2.mono (by simp))
  have HF2 := Lib.hid hf2
  clear hf2
  go_wp2
  go_loopw [7] (fun p wr => ∃ k : Nat, k ≤ 5 ∧ p = .int .i64 k ∧ Below w2.heap.size w2 wr ∧ ∀ j, j < k → inField j (o.fld j) = true) (fun p _ => 5 - (intOf p).toNat)
  case atStart => exact ⟨0, Nat.zero_le _, rfl, Below.refl _ _, fun j h => by omega⟩
  case round =>
    obtain ⟨k, hk, rfl, hB, hI⟩ := hrel
    have hBw := hB2.trans (hB.mono hB2.size)
    by_cases hlt : k < 5
    · have hfr : wr.heap[w.heap.size + 1]? = some (.cells (fieldCells w.heap.size) 73 (0, 0)) := (hB.block _ (by omega)).trans HF2.out
      obtain ⟨c0, c1, c2⟩ := field_cells hfr hlt
      have HFR := Lib.hid hfr
      have HI := Lib.hid hI
      clear hfr hI
      have hx : wr.cell? ⟨w.heap.size, k, none⟩ = some (.int .i64 (o.fld k)) := by
        rw [hB.cell (p := ⟨w.heap.size, k, none⟩) (by show w.heap.size < w2.heap.size; omega), hb2.cell (p := ⟨w.heap.size, k, none⟩) (by show w.heap.size < _; simp)]
        exact HO.out k hlt
      have HM := Lib.hid (fun h => mayB_no (o := o) hlt h)
      generalize hxx : o.fld k = x at *
      have HX := Lib.hid hxx
      clear hxx
      have hq : w.heap.size < wr.heap.size := by have := hB.size; omega
      have hx' : (wr.alloc (.cells #[.pointer (some ⟨w.heap.size, k, none⟩), .int .i64 (least k), .int .i64 (most k)] 73)).cell? ⟨w.heap.size, k, none⟩ = some (.int .i64 x) := by
        rw [World.cell?_alloc_past _ _ _ hq]; exact hx
      by_cases h1 : x < least k
      · have g1 : decide (x < least k) = true := decide_eq_true h1
        have HV := Lib.hid (HM.out (by unfold inField; rw [decide_eq_false (by omega)]; rfl))
        go_wp2
        go_quiet (fail)
        go_wp2
        go_ret
        exact ⟨ret_err (by rw [HV.out]; rfl), below_drewN (hBw.alloc hBw.size _) _⟩
      · have g1 : decide (x < least k) = false := decide_eq_false h1
        by_cases h2 : most k < x
        · have g2 : decide (most k < x) = true := decide_eq_true h2
          have HV := Lib.hid (HM.out (by unfold inField; rw [decide_eq_false (show ¬ x ≤ most k by omega)]; simp))
          go_wp2
          go_quiet (fail)
          go_wp2
          go_ret
          exact ⟨ret_err (by rw [HV.out]; rfl), below_drewN (hBw.alloc hBw.size _) _⟩
        · have g2 : decide (most k < x) = false := decide_eq_false h2
          have HV := Lib.hid (show inField k x = true by unfold inField; rw [decide_eq_true (show least k ≤ x by omega), decide_eq_true (show x ≤ most k by omega)]; rfl)
          go_wp2
          go_quiet (fail)
          go_wp2
          go_roundw
          case rel => exact ⟨k + 1, by omega, by go_num, below_drewN (hB.alloc hB.size _) _, fun j h => by
            by_cases e : j = k
            · subst e; rw [HX.out]; exact HV.out
            · exact HI.out j (by omega)⟩
          case measure => simp [intOf]; omega
    · obtain rfl : k = 5 := by omega
      have HV := Lib.hid (mayB_yes hI)
      go_wp2
      go_ret
      exact ⟨ret_err (by rw [HV.out]; rfl), hBw⟩
end Go.Proofs.YtnekpehgaojkaaaDoor
