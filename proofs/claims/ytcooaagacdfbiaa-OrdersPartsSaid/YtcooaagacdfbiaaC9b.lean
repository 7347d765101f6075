/- The contract of orders.Encode. -/
import Derived.Test.YtcooaagacdfbiaaC9a
namespace Go.Proofs.Ytcooaagacdfbiaa
open Go.RowKit

/-- The marks of an order's first k numbers. -/
def ordK (o : Ord) : Nat → List UInt8
  | 0 => []
  | k + 1 => ordK o k ++ Marks.put (o.fld k)
def ordB (o : Ord) : List UInt8 := Marks.put o.id ++ Marks.put o.stream ++ Marks.put o.expect ++ Marks.put o.kind ++ Marks.put o.arg
theorem ordK_five (o : Ord) : ordK o 5 = ordB o := by
  show [] ++ Marks.put o.id ++ Marks.put o.stream ++ Marks.put o.expect ++ Marks.put o.kind ++ Marks.put o.arg = _
  rw [List.nil_append]; rfl
theorem ordK_len (o : Ord) (k : Nat) : (ordK o k).length ≤ 10 * k := by
  induction k with
  | zero => simp [ordK]
  | succ k ih =>
    have := (Marks.put_len (o.fld k)).2
    rw [ordK, List.length_append]; omega
theorem inField_i64 {k : Nat} {x : Int} (h : inField k x = true) : -9223372036854775808 ≤ x ∧ x ≤ 9223372036854775807 := by
  unfold inField at h
  simp only [Bool.and_eq_true, decide_eq_true_eq] at h
  have h1 : -1048576 ≤ least k := by unfold least; split <;> omega
  have h2 : most k ≤ 2147483647 := by unfold most; split <;> omega
  omega
theorem mayB_fld {o : Ord} (h : mayB o = true) (k : Nat) (hk : k < 5) : inField k (o.fld k) = true := by
  unfold mayB at h
  simp only [Bool.and_eq_true] at h
  match k, hk with
  | 0, _ => exact h.1.1.1.1
  | 1, _ => exact h.1.1.1.2
  | 2, _ => exact h.1.1.2
  | 3, _ => exact h.1.2
  | 4, _ => exact h.2
theorem mayB_i64 {o : Ord} (h : mayB o = true) (k : Nat) (hk : k < 5) : -9223372036854775808 ≤ o.fld k ∧ o.fld k ≤ 9223372036854775807 := inField_i64 (mayB_fld h k hk)
theorem check_yes {o : Ord} (h : mayB o = true) (w : World) :
    Calls Try.prog 11 #[.agg #[.int .i64 o.id, .int .i64 o.stream, .int .i64 o.expect, .int .i64 o.kind, .int .i64 o.arg]] w fun e w' => e = .returned (.int .i64 0) ∧ Below w.heap.size w w' := by
  have := check_any o w
  rw [h] at this; exact this
theorem check_no {o : Ord} (h : mayB o = false) (w : World) :
    Calls Try.prog 11 #[.agg #[.int .i64 o.id, .int .i64 o.stream, .int .i64 o.expect, .int .i64 o.kind, .int .i64 o.arg]] w fun e w' => e = .returned (.int .i64 2) ∧ Below w.heap.size w w' := by
  have := check_any o w
  rw [h] at this; exact this
def ordCells (o : Ord) : Array Value := #[.int .i64 o.id, .int .i64 o.stream, .int .i64 o.expect, .int .i64 o.kind, .int .i64 o.arg]
theorem ord_cell {w : World} {B : Nat} {o : Ord} {t : TypeId} (h : w.heap[B]? = some (.cells (ordCells o) t (0, 0))) (k : Nat) (hk : k < 5) : w.cell? ⟨B, k, none⟩ = some (.int .i64 (o.fld k)) := by
  have hc : w.cell? ⟨B, k, none⟩ = (ordCells o)[k]? := by simp [World.cell?, h]
  rw [hc]
  match k, hk with
  | 0, _ => rfl
  | 1, _ => rfl
  | 2, _ => rfl
  | 3, _ => rfl
  | 4, _ => rfl

set_option maxRecDepth 100000 in
set_option maxHeartbeats 2000000 in
theorem encode_no (o : Ord) (hm : mayB o = false) (w : World) :
    Calls Try.prog 9 #[.agg #[.int .i64 o.id, .int .i64 o.stream, .int .i64 o.expect, .int .i64 o.kind, .int .i64 o.arg]] w fun e w' => e = .returned (.tuple #[.string ⟨#[]⟩, .int .i64 2]) ∧ Below w.heap.size w w' := by
  have HC := Lib.hid (check_no hm)
  have hb1 : Below w.heap.size w (w.alloc (.cells #[.int .i64 o.id, .int .i64 o.stream, .int .i64 o.expect, .int .i64 o.kind, .int .i64 o.arg] 23)) := (Below.refl _ _).alloc (Nat.le_refl _) _
  clear hm
  go_enter Try.func9, Try.ntmps9
  go_wp2_with fail
  refine (HC.out _).mono ?_
  rintro e w2 ⟨rfl, hb2⟩
  go_wp2
  go_ret2
  exact ⟨rfl, hb1.trans (hb2.mono hb1.size)⟩

set_option maxRecDepth 100000 in
set_option maxHeartbeats 2000000 in
theorem encode_yes (o : Ord) (hm : mayB o = true) (w : World) :
    Calls Try.prog 9 #[.agg #[.int .i64 o.id, .int .i64 o.stream, .int .i64 o.expect, .int .i64 o.kind, .int .i64 o.arg]] w fun e w' => e = .returned (.tuple #[.string (str (ordB o)), .int .i64 0]) ∧ Below w.heap.size w w' := by
  have HC := Lib.hid (check_yes hm)
  have HM := Lib.hid (mayB_i64 hm)
  obtain ⟨w1, hw1⟩ : ∃ w1, w.alloc (.cells #[.int .i64 o.id, .int .i64 o.stream, .int .i64 o.expect, .int .i64 o.kind, .int .i64 o.arg] 23) = w1 := ⟨_, rfl⟩
  have hb1 : Below w.heap.size w w1 := by rw [← hw1]; exact (Below.refl _ _).alloc (Nat.le_refl _) _
  have hs1 : w1.heap.size = w.heap.size + 1 := by rw [← hw1]; simp
  have hh1 : w1.heap[w.heap.size]? = some (.cells (ordCells o) 23 (0, 0)) := by rw [← hw1]; exact World.alloc_heap_new w _
  have HW1 := Lib.hid hw1
  clear hm hw1
  go_enter Try.func9, Try.ntmps9
  go_wp2_with fail
  rw [HW1.out]
  refine (HC.out _).mono ?_
  rintro e w2 ⟨rfl, hb2⟩
  have hB2 := hb1.trans (hb2.mono hb1.size)
  have hs2 := hb2.size
  have hh2 : w2.heap[w.heap.size]? = some (.cells (ordCells o) 23 (0, 0)) := (hb2.block _ (by omega)).trans hh1
  have HH2 := Lib.hid hh2
  have HF := Lib.hid (fields_any w.heap.size w2 _ _ _ _ _ (ord_cell hh2 0 (by decide)) (ord_cell hh2 1 (by decide)) (ord_cell hh2 2 (by decide)) (ord_cell hh2 3 (by decide)) (ord_cell hh2 4 (by decide)))
  clear hh1 hh2 hb2 HW1
  go_wp2_with fail
  refine HF.out.mono ?_
  rintro e w3 ⟨rfl, hb3, hs3, hf3⟩
  have hB3 := hB2.trans (hb3.mono hB2.size)
  have HF3 := Lib.hid hf3
  have HH3 := Lib.hid ((hb3.block _ (by omega)).trans HH2.out)
  clear hf3 hb3 HF HH2 hB2
  go_wp2
  go_loopw [5, 15] (fun q p wr => ∃ k : Nat, k ≤ 5 ∧ p = .int .i64 k ∧ q = .string (str (ordK o k)) ∧ Below w3.heap.size w3 wr) (fun _ p _ => 5 - (intOf p).toNat)
  case atStart => exact ⟨0, Nat.zero_le _, rfl, rfl, Below.refl _ _⟩
  case round =>
    obtain ⟨k, hk, rfl, rfl, hB⟩ := hrel
    have hBw := hB3.trans (hB.mono hB3.size)
    have hBs := hB.size
    by_cases hlt : k < 5
    · obtain ⟨c0, c1, c2⟩ := field_cells ((hB.block _ (by omega)).trans HF3.out) hlt
      have hx := ord_cell ((hB.block _ (by omega)).trans HH3.out) k hlt
      obtain ⟨x0, x1⟩ := HM.out k hlt
      have HS := Lib.hid (show ordK o k ++ Marks.put (o.fld k) = ordK o (k + 1) from rfl)
      have h1 : (str (ordK o k)).size ≤ 10 * k := by rw [str_size]; exact ordK_len o k
      have HP := Lib.hid (put_any (o.fld k) x0 x1)
      have h2 : (str (Marks.put (o.fld k))).size ≤ 10 := by rw [str_size]; exact (Marks.put_len _).2
      clear x0 x1
      generalize o.fld k = x at *
      have hq : w.heap.size < wr.heap.size := by omega
      have hx' : (wr.alloc (.cells #[.pointer (some ⟨w.heap.size, k, none⟩), .int .i64 (least k), .int .i64 (most k)] 45)).cell? ⟨w.heap.size, k, none⟩ = some (.int .i64 x) := by
        rw [World.cell?_alloc_past _ _ _ hq]; exact hx
      go_wp2_with fail
      refine (HP.out _).mono ?_
      rintro e w4 ⟨rfl, hb4⟩
      have hB4 := (hB.alloc hB.size (.cells #[.pointer (some ⟨w.heap.size, k, none⟩), .int .i64 (least k), .int .i64 (most k)] 45)).trans (hb4.mono (by simp; omega))
      have HB4 := Lib.hid hB4
      clear hb4 hB4
      go_wp2
      go_roundw
      case rel => exact ⟨k + 1, by omega, by go_num, by rw [str_append, HS.out], HB4.out⟩
      case measure => simp [intOf]; omega
    · obtain rfl : k = 5 := by omega
      go_wp2
      go_ret2
      exact ⟨by rw [← ordK_five]; rfl, hBw⟩
end Go.Proofs.Ytcooaagacdfbiaa
