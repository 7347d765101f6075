/- works of layer 9. -/
import Derived.Test.YtcooaagacdfbiaaC9e
namespace Go.Proofs.Ytcooaagacdfbiaa
open Go.RowKit

theorem fresh_store (w : World) (o : Ord) (t : TypeId) : ∃ w', (w.alloc (.cells #[.int .i64 0, .int .i64 0, .int .i64 0, .int .i64 0, .int .i64 0] t)).setRow w.heap.size (ordCells o) = w' ∧
    Below w.heap.size w w' ∧ w'.heap.size = w.heap.size + 1 ∧ w'.heap[w.heap.size]? = some (.cells (ordCells o) t (0, 0)) :=
  ⟨_, rfl, below_setRow ((Below.refl _ _).alloc (Nat.le_refl _) _) (Nat.le_refl _) _, by simp, setRow_heap _ _ _ _ _ _ (World.alloc_heap_new w _)⟩
theorem ord_cells {w : World} {B : Nat} {o : Ord} {t : TypeId} (h : w.heap[B]? = some (.cells (ordCells o) t (0, 0))) :
    w.cell? ⟨B, 0, none⟩ = some (.int .i64 o.id) ∧ w.cell? ⟨B, 1, none⟩ = some (.int .i64 o.stream) ∧ w.cell? ⟨B, 2, none⟩ = some (.int .i64 o.expect) ∧ w.cell? ⟨B, 3, none⟩ = some (.int .i64 o.kind) ∧ w.cell? ⟨B, 4, none⟩ = some (.int .i64 o.arg) :=
  ⟨ord_cell h 0 (by decide), ord_cell h 1 (by decide), ord_cell h 2 (by decide), ord_cell h 3 (by decide), ord_cell h 4 (by decide)⟩
/-- Decode, in each of its ways. -/
theorem decode_yes {s : ByteArray} {o : Ord} (hs : s.size ≤ maxLen) (h : decO s.data.toList = some o) (w : World) :
    Calls Try.prog 14 #[.string s] w fun e w' => e = .returned (.tuple #[.agg #[.int .i64 o.id, .int .i64 o.stream, .int .i64 o.expect, .int .i64 o.kind, .int .i64 o.arg], .int .i64 0]) ∧ Below w.heap.size w w' := by
  have := decode_any s hs w
  rw [h] at this; exact this
theorem decode_no {s : ByteArray} (hs : s.size ≤ maxLen) (h : decO s.data.toList = none) (w : World) :
    Calls Try.prog 14 #[.string s] w fun e w' => e = .returned (.tuple #[.agg #[.int .i64 0, .int .i64 0, .int .i64 0, .int .i64 0, .int .i64 0], .int .i64 30]) ∧ Below w.heap.size w w' := by
  have := decode_any s hs w
  rw [h] at this; exact this

theorem ex_may : mayB ⟨7, 1, -1, 2, 100⟩ = true := by decide
theorem ex_bytes : ordB ⟨7, 1, -1, 2, 100⟩ = [14, 2, 1, 4, 200, 1] := by decide +kernel
set_option maxRecDepth 100000 in
theorem ex_dec : (decO [14, 2, 1, 4, 200, 1]) = some ⟨7, 1, -1, 2, 100⟩ := by rfl
set_option maxRecDepth 100000 in
theorem ex_dec2 : (decO [14, 2, 1, 4, 200, 1, 0]) = none := by rfl
theorem ex_no : mayB ⟨0, 0, 0, 1, 0⟩ = false := by decide

set_option maxRecDepth 100000 in
set_option maxHeartbeats 4000000 in
theorem works_any (w : World) : Calls Try.prog 13 #[] w fun e w' => e = .returned (.bool true) ∧ Below w.heap.size w w' := by
  have HE := Lib.hid (encode_yes _ ex_may)
  rw [ex_bytes, show str [14, 2, 1, 4, 200, 1] = ⟨#[14, 2, 1, 4, 200, 1]⟩ from rfl] at HE
  have HD := Lib.hid (decode_yes (s := ⟨#[14, 2, 1, 4, 200, 1]⟩) (by decide) ex_dec)
  have HN := Lib.hid (decode_no (s := ⟨#[14, 2, 1, 4, 200, 1, 0]⟩) (by decide) ex_dec2)
  have HC := Lib.hid (check_no ex_no)
  obtain ⟨w1, e1, b1, s1, h1⟩ := fresh_store w ⟨7, 1, -1, 2, 100⟩ 23
  have E1 := Lib.hid e1
  have n1 := World.alloc_heap_new w (.cells #[.int .i64 0, .int .i64 0, .int .i64 0, .int .i64 0, .int .i64 0] 23)
  obtain ⟨c0, c1, c2, c3, c4⟩ := ord_cells h1
  have H1 := Lib.hid h1
  clear e1 h1
  go_enter Try.func13, Try.ntmps13
  go_wp2_with (refine wpList_store_row rfl _ _ (.tmp 8) rfl w.heap.size (ordCells ⟨7, 1, -1, 2, 100⟩) rfl rfl _ _ n1 (by kernel_rfl) rfl (ord_one _) ?_; rw [E1.out])
  refine (HE.out _).mono ?_
  rintro e w2 ⟨rfl, b2⟩
  clear c0 c1 c2 c3 c4 n1
  have B2 := b1.trans (b2.mono b1.size)
  have H2 := Lib.hid ((b2.block _ (by omega)).trans H1.out)
  have s2 := b2.size
  go_wp2_with fail
  refine (HD.out _).mono ?_
  rintro e w3 ⟨rfl, b3⟩
  have B3 := B2.trans (b3.mono B2.size)
  have H3 := Lib.hid ((b3.block _ (by omega)).trans H2.out)
  have s3 := b3.size
  obtain ⟨w4, e4, b4, s4, h4⟩ := fresh_store w3 ⟨7, 1, -1, 2, 100⟩ 23
  have E4 := Lib.hid e4
  have n4 := World.alloc_heap_new w3 (.cells #[.int .i64 0, .int .i64 0, .int .i64 0, .int .i64 0, .int .i64 0] 23)
  have H4 := Lib.hid h4
  clear e4 h4
  go_wp2_with (refine wpList_store_row rfl _ _ (.tmp 16) rfl w3.heap.size (ordCells ⟨7, 1, -1, 2, 100⟩) rfl rfl _ _ n4 (by kernel_rfl) rfl (ord_one _) ?_; rw [E4.out])
  refine (HN.out _).mono ?_
  rintro e w5 ⟨rfl, b5⟩
  clear n4
  have B4 := B3.trans (b4.mono B3.size)
  have B5 := B4.trans (b5.mono B4.size)
  have s5 := b5.size
  have H15 := Lib.hid ((b5.block _ (by omega)).trans ((b4.block _ (by omega)).trans H3.out))
  have H45 := Lib.hid ((b5.block _ (by omega)).trans H4.out)
  obtain ⟨w6, e6, b6, s6, h6⟩ := fresh_store w5 zeroOrd 23
  have E6 := Lib.hid e6
  have n6 := World.alloc_heap_new w5 (.cells #[.int .i64 0, .int .i64 0, .int .i64 0, .int .i64 0, .int .i64 0] 23)
  have B6 := B5.trans (b6.mono B5.size)
  have h16 := (b6.block _ (by omega)).trans H15.out
  have h46 := (b6.block _ (by omega)).trans H45.out
  obtain ⟨c0, c1, c2, c3, c4⟩ := ord_cells h16
  obtain ⟨d0, d1, d2, d3, d4⟩ := ord_cells h46
  clear e6 h6 h16 h46
  go_wp2_with (refine wpList_store_row rfl _ _ (.tmp 20) rfl w5.heap.size (ordCells zeroOrd) rfl rfl _ _ n6 (by kernel_rfl) rfl (ord_one _) ?_; rw [E6.out])
  refine (HC.out _).mono ?_
  rintro e w7 ⟨rfl, b7⟩
  go_wp2
  go_ret
  exact ⟨rfl, B6.trans (b7.mono B6.size)⟩
end Go.Proofs.Ytcooaagacdfbiaa
