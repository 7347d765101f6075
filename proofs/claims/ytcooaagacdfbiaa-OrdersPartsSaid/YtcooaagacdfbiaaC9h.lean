/- Walk of layer 9: OrdersDecode. -/
import Derived.Test.YtcooaagacdfbiaaC9g
namespace Go.Proofs.Ytcooaagacdfbiaa
open Go.RowKit

set_option maxRecDepth 100000 in
set_option maxHeartbeats 4000000 in
theorem decode_both (s : ByteArray) (o : Ord) (n : Int) (h1 : ∀ w, Calls Try.prog 14 #[.string s] w fun e w' => e = .returned (.tuple #[.agg #[.int .i64 o.id, .int .i64 o.stream, .int .i64 o.expect, .int .i64 o.kind, .int .i64 o.arg], .int .i64 n]) ∧ Below w.heap.size w w')
    (h2 : ∀ w, Calls Try.prog 15 #[.string s] w fun e w' => e = .returned (.tuple #[.agg #[.int .i64 o.id, .int .i64 o.stream, .int .i64 o.expect, .int .i64 o.kind, .int .i64 o.arg], .int .i64 n]) ∧ Below w.heap.size w w') (w : World) :
    Calls Try.prog 4 #[.string s] w fun e w' => e = .returned (.bool true) ∧ Below w.heap.size w w' := by
  have X1 := Lib.hid h1
  have X2 := Lib.hid h2
  clear h1 h2
  go_enter Try.func4, Try.ntmps4
  go_wp2_with fail
  refine (X1.out _).mono ?_
  rintro e w1 ⟨rfl, b1⟩
  obtain ⟨w2, e2, b2, s2, h2⟩ := fresh_store w1 o 23
  have E2 := Lib.hid e2
  have H2 := Lib.hid h2
  have n2 := World.alloc_heap_new w1 (.cells #[.int .i64 0, .int .i64 0, .int .i64 0, .int .i64 0, .int .i64 0] 23)
  clear e2 h2
  have B2 := b1.trans (b2.mono b1.size)
  go_wp2_with (refine wpList_store_row rfl _ _ (.tmp 10) rfl w1.heap.size (ordCells o) rfl rfl _ _ n2 (by kernel_rfl) rfl (ord_one _) ?_; rw [E2.out])
  refine (X2.out _).mono ?_
  rintro e w3 ⟨rfl, b3⟩
  clear n2
  have B3 := B2.trans (b3.mono B2.size)
  have s3 := b3.size
  have H3 := Lib.hid ((b3.block _ (by omega)).trans H2.out)
  obtain ⟨w4, e4, b4, s4, h4⟩ := fresh_store w3 o 23
  have E4 := Lib.hid e4
  have n4 := World.alloc_heap_new w3 (.cells #[.int .i64 0, .int .i64 0, .int .i64 0, .int .i64 0, .int .i64 0] 23)
  have B4 := B3.trans (b4.mono B3.size)
  obtain ⟨c0, c1, c2, c3, c4⟩ := ord_cells ((b4.block _ (by omega)).trans H3.out)
  obtain ⟨d0, d1, d2, d3, d4⟩ := ord_cells h4
  clear e4 h4
  go_wp2_with (refine wpList_store_row rfl _ _ (.tmp 15) rfl w3.heap.size (ordCells o) rfl rfl _ _ n4 (by kernel_rfl) rfl (ord_one _) ?_; rw [E4.out])
  refine (works_any _).mono ?_
  rintro e w5 ⟨rfl, b5⟩
  go_wp2
  go_ret
  exact ⟨rfl, B4.trans (b5.mono B4.size)⟩

theorem ordersDecode_walk (s : ByteArray) (hs : s.size ≤ maxLen) (w : World) :
    Calls Try.prog 4 #[.string s] w fun e w' => e = .returned (.bool true) ∧ Below w.heap.size w w' := by
  cases hd : decO s.data.toList with
  | none => exact decode_both s zeroOrd 30 (decode_no hs hd) (refDecode_no hs hd) w
  | some o => exact decode_both s o 0 (decode_yes hs hd) (refDecode_yes hs hd) w
end Go.Proofs.Ytcooaagacdfbiaa
