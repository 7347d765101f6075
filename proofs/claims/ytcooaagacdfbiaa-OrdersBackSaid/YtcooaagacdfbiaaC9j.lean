/- Walk of layer 9: OrdersBack. -/
import Derived.Test.YtcooaagacdfbiaaC9i
namespace Go.Proofs.Ytcooaagacdfbiaa
open Go.RowKit

set_option maxRecDepth 100000 in
set_option maxHeartbeats 4000000 in
theorem back_no (o : Ord) (hm : mayB o = false) (s : ByteArray) (hs : s.size ≤ maxLen) (w : World) :
    Calls Try.prog 5 #[.agg #[.int .i64 o.id, .int .i64 o.stream, .int .i64 o.expect, .int .i64 o.kind, .int .i64 o.arg], .string s] w fun e w' => e = .returned (.bool true) ∧ Below w.heap.size w w' := by
  obtain ⟨w1, e1, b1, s1, h1⟩ := boxed w o 23
  have E1 := Lib.hid e1
  have H1 := Lib.hid h1
  have X1 := Lib.hid (encode_no o hm)
  have X2 := Lib.hid (check_no hm)
  clear e1 h1 hm
  cases hd : decO s.data.toList with
  | none =>
    have X3 := Lib.hid (decode_no hs hd)
    clear hd
    go_enter Try.func5, Try.ntmps5
    obtain ⟨c0, c1, c2, c3, c4⟩ := ord_cells H1.out
    go_wp2_with fail
    rw [E1.out]
    refine (X1.out _).mono ?_
    rintro e w2 ⟨rfl, b2⟩
    clear c0 c1 c2 c3 c4
    have B2 := b1.trans (b2.mono b1.size)
    have s2 := b2.size
    obtain ⟨c0, c1, c2, c3, c4⟩ := ord_cells ((b2.block _ (by omega)).trans H1.out)
    go_wp2_with fail
    refine (X2.out _).mono ?_
    rintro e w3 ⟨rfl, b3⟩
    clear c0 c1 c2 c3 c4
    have B3 := B2.trans (b3.mono B2.size)
    have s3 := b3.size
    go_wp2_with fail
    refine (X3.out _).mono ?_
    rintro e w4 ⟨rfl, b4⟩
    have B4 := B3.trans (b4.mono B3.size)
    have s4 := b4.size
    obtain ⟨w5, e5, b5, s5, h5⟩ := fresh_store w4 zeroOrd 23
    have E5 := Lib.hid e5
    have n5 := World.alloc_heap_new w4 (.cells #[.int .i64 0, .int .i64 0, .int .i64 0, .int .i64 0, .int .i64 0] 23)
    have B5 := B4.trans (b5.mono B4.size)
    obtain ⟨d0, d1, d2, d3, d4⟩ := ord_cells h5
    clear e5 h5
    go_wp2_with (refine wpList_store_row rfl _ _ (.tmp 45) rfl w4.heap.size (ordCells zeroOrd) rfl rfl _ _ n5 (by kernel_rfl) rfl (ord_one _) ?_; rw [E5.out])
    refine (works_any _).mono ?_
    rintro e w6 ⟨rfl, b6⟩
    go_wp2
    go_ret
    exact ⟨rfl, B5.trans (b6.mono B5.size)⟩
  | some p =>
    have X3 := Lib.hid (decode_yes hs hd)
    have X4 := Lib.hid (encode_yes p (enc_dec hd).1)
    have hq : str (ordB p) = s := by rw [(enc_dec hd).2]; rfl
    rw [hq] at X4
    clear hd hq
    go_enter Try.func5, Try.ntmps5
    obtain ⟨c0, c1, c2, c3, c4⟩ := ord_cells H1.out
    go_wp2_with fail
    rw [E1.out]
    refine (X1.out _).mono ?_
    rintro e w2 ⟨rfl, b2⟩
    clear c0 c1 c2 c3 c4
    have B2 := b1.trans (b2.mono b1.size)
    have s2 := b2.size
    obtain ⟨c0, c1, c2, c3, c4⟩ := ord_cells ((b2.block _ (by omega)).trans H1.out)
    go_wp2_with fail
    refine (X2.out _).mono ?_
    rintro e w3 ⟨rfl, b3⟩
    clear c0 c1 c2 c3 c4
    have B3 := B2.trans (b3.mono B2.size)
    have s3 := b3.size
    go_wp2_with fail
    refine (X3.out _).mono ?_
    rintro e w4 ⟨rfl, b4⟩
    have B4 := B3.trans (b4.mono B3.size)
    have s4 := b4.size
    obtain ⟨w5, e5, b5, s5, h5⟩ := fresh_store w4 p 23
    have E5 := Lib.hid e5
    have n5 := World.alloc_heap_new w4 (.cells #[.int .i64 0, .int .i64 0, .int .i64 0, .int .i64 0, .int .i64 0] 23)
    have B5 := B4.trans (b5.mono B4.size)
    obtain ⟨d0, d1, d2, d3, d4⟩ := ord_cells h5
    clear e5 h5
    go_wp2_with (refine wpList_store_row rfl _ _ (.tmp 45) rfl w4.heap.size (ordCells p) rfl rfl _ _ n5 (by kernel_rfl) rfl (ord_one _) ?_; rw [E5.out])
    refine (X4.out _).mono ?_
    rintro e w6 ⟨rfl, b6⟩
    have B6 := B5.trans (b6.mono B5.size)
    go_wp2_with fail
    refine (works_any _).mono ?_
    rintro e w7 ⟨rfl, b7⟩
    go_wp2
    go_ret
    exact ⟨rfl, B6.trans (b7.mono B6.size)⟩

set_option maxRecDepth 100000 in
set_option maxHeartbeats 4000000 in
theorem back_yes (o : Ord) (hm : mayB o = true) (s : ByteArray) (hs : s.size ≤ maxLen) (w : World) :
    Calls Try.prog 5 #[.agg #[.int .i64 o.id, .int .i64 o.stream, .int .i64 o.expect, .int .i64 o.kind, .int .i64 o.arg], .string s] w fun e w' => e = .returned (.bool true) ∧ Below w.heap.size w w' := by
  obtain ⟨w1, e1, b1, s1, h1⟩ := boxed w o 23
  have E1 := Lib.hid e1
  have H1 := Lib.hid h1
  have X1 := Lib.hid (encode_yes o hm)
  have X2 := Lib.hid (check_yes hm)
  have hz : (str (ordB o)).size ≤ 50 := by rw [← ordK_five, str_size]; exact ordK_len o 5
  have X0 := Lib.hid (decode_yes (s := str (ordB o)) (by unfold maxLen; omega) (show decO (str (ordB o)).data.toList = some o from dec_enc hm))
  clear e1 h1 hm
  cases hd : decO s.data.toList with
  | none =>
    have X3 := Lib.hid (decode_no hs hd)
    clear hd
    go_enter Try.func5, Try.ntmps5
    obtain ⟨c0, c1, c2, c3, c4⟩ := ord_cells H1.out
    go_wp2_with fail
    rw [E1.out]
    refine (X1.out _).mono ?_
    rintro e w2 ⟨rfl, b2⟩
    clear c0 c1 c2 c3 c4
    have B2 := b1.trans (b2.mono b1.size)
    have s2 := b2.size
    have H2 := Lib.hid ((b2.block _ (by omega)).trans H1.out)
    obtain ⟨c0, c1, c2, c3, c4⟩ := ord_cells H2.out
    go_wp2_with fail
    refine (X2.out _).mono ?_
    rintro e w3 ⟨rfl, b3⟩
    clear c0 c1 c2 c3 c4
    have B3 := B2.trans (b3.mono B2.size)
    have s3 := b3.size
    have H3 := Lib.hid ((b3.block _ (by omega)).trans H2.out)
    go_wp2_with fail
    refine (X0.out _).mono ?_
    rintro e w7 ⟨rfl, b7⟩
    have B7 := B3.trans (b7.mono B3.size)
    have s7 := b7.size
    have H7 := Lib.hid ((b7.block _ (by omega)).trans H3.out)
    obtain ⟨w8, e8, b8, s8, h8⟩ := fresh_store w7 o 23
    have E8 := Lib.hid e8
    have n8 := World.alloc_heap_new w7 (.cells #[.int .i64 0, .int .i64 0, .int .i64 0, .int .i64 0, .int .i64 0] 23)
    have B8 := B7.trans (b8.mono B7.size)
    obtain ⟨c0, c1, c2, c3, c4⟩ := ord_cells ((b8.block _ (by omega)).trans H7.out)
    obtain ⟨d0, d1, d2, d3, d4⟩ := ord_cells h8
    clear e8 h8
    go_wp2_with (refine wpList_store_row rfl _ _ (.tmp 27) rfl w7.heap.size (ordCells o) rfl rfl _ _ n8 (by kernel_rfl) rfl (ord_one _) ?_; rw [E8.out])
    refine (X3.out _).mono ?_
    rintro e w4 ⟨rfl, b4⟩
    clear c0 c1 c2 c3 c4 d0 d1 d2 d3 d4 n8
    have B4 := B8.trans (b4.mono B8.size)
    have s4 := b4.size
    obtain ⟨w5, e5, b5, s5, h5⟩ := fresh_store w4 zeroOrd 23
    have E5 := Lib.hid e5
    have n5 := World.alloc_heap_new w4 (.cells #[.int .i64 0, .int .i64 0, .int .i64 0, .int .i64 0, .int .i64 0] 23)
    have B5 := B4.trans (b5.mono B4.size)
    obtain ⟨d0, d1, d2, d3, d4⟩ := ord_cells h5
    clear e5 h5
    go_wp2_with (refine wpList_store_row rfl _ _ (.tmp 45) rfl w4.heap.size (ordCells zeroOrd) rfl rfl _ _ n5 (by kernel_rfl) rfl (ord_one _) ?_; rw [E5.out])
    refine (works_any _).mono ?_
    rintro e w6 ⟨rfl, b6⟩
    go_wp2
    go_ret
    exact ⟨rfl, B5.trans (b6.mono B5.size)⟩
  | some p =>
    have X3 := Lib.hid (decode_yes hs hd)
    have X4 := Lib.hid (encode_yes p (enc_dec hd).1)
    have hq : str (ordB p) = s := by rw [(enc_dec hd).2]; rfl
    rw [hq] at X4
    clear hd hq
    go_enter Try.func5, Try.ntmps5
    obtain ⟨c0, c1, c2, c3, c4⟩ := ord_cells H1.out
    go_wp2_with fail
    rw [E1.out]
    refine (X1.out _).mono ?_
    rintro e w2 ⟨rfl, b2⟩
    clear c0 c1 c2 c3 c4
    have B2 := b1.trans (b2.mono b1.size)
    have s2 := b2.size
    have H2 := Lib.hid ((b2.block _ (by omega)).trans H1.out)
    obtain ⟨c0, c1, c2, c3, c4⟩ := ord_cells H2.out
    go_wp2_with fail
    refine (X2.out _).mono ?_
    rintro e w3 ⟨rfl, b3⟩
    clear c0 c1 c2 c3 c4
    have B3 := B2.trans (b3.mono B2.size)
    have s3 := b3.size
    have H3 := Lib.hid ((b3.block _ (by omega)).trans H2.out)
    go_wp2_with fail
    refine (X0.out _).mono ?_
    rintro e w7 ⟨rfl, b7⟩
    have B7 := B3.trans (b7.mono B3.size)
    have s7 := b7.size
    have H7 := Lib.hid ((b7.block _ (by omega)).trans H3.out)
    obtain ⟨w8, e8, b8, s8, h8⟩ := fresh_store w7 o 23
    have E8 := Lib.hid e8
    have n8 := World.alloc_heap_new w7 (.cells #[.int .i64 0, .int .i64 0, .int .i64 0, .int .i64 0, .int .i64 0] 23)
    have B8 := B7.trans (b8.mono B7.size)
    obtain ⟨c0, c1, c2, c3, c4⟩ := ord_cells ((b8.block _ (by omega)).trans H7.out)
    obtain ⟨d0, d1, d2, d3, d4⟩ := ord_cells h8
    clear e8 h8
    go_wp2_with (refine wpList_store_row rfl _ _ (.tmp 27) rfl w7.heap.size (ordCells o) rfl rfl _ _ n8 (by kernel_rfl) rfl (ord_one _) ?_; rw [E8.out])
    refine (X3.out _).mono ?_
    rintro e w4 ⟨rfl, b4⟩
    clear c0 c1 c2 c3 c4 d0 d1 d2 d3 d4 n8
    have B4 := B8.trans (b4.mono B8.size)
    have s4 := b4.size
    obtain ⟨w5, e5, b5, s5, h5⟩ := fresh_store w4 p 23
    have E5 := Lib.hid e5
    have n5 := World.alloc_heap_new w4 (.cells #[.int .i64 0, .int .i64 0, .int .i64 0, .int .i64 0, .int .i64 0] 23)
    have B5 := B4.trans (b5.mono B4.size)
    obtain ⟨d0, d1, d2, d3, d4⟩ := ord_cells h5
    clear e5 h5
    go_wp2_with (refine wpList_store_row rfl _ _ (.tmp 45) rfl w4.heap.size (ordCells p) rfl rfl _ _ n5 (by kernel_rfl) rfl (ord_one _) ?_; rw [E5.out])
    refine (X4.out _).mono ?_
    rintro e w6 ⟨rfl, b6⟩
    have B6 := B5.trans (b6.mono B5.size)
    go_wp2_with fail
    refine (works_any _).mono ?_
    rintro e w9 ⟨rfl, b9⟩
    go_wp2
    go_ret
    exact ⟨rfl, B6.trans (b9.mono B6.size)⟩

theorem ordersBack_walk (a b c d e : Int) (s : ByteArray) (_ : (Lit.int .i64 a).wf = true) (_ : (Lit.int .i64 b).wf = true) (_ : (Lit.int .i64 c).wf = true) (_ : (Lit.int .i64 d).wf = true) (_ : (Lit.int .i64 e).wf = true) (hs : s.size ≤ maxLen) (w : World) :
    Calls Try.prog 5 #[.agg #[.int .i64 a, .int .i64 b, .int .i64 c, .int .i64 d, .int .i64 e], .string s] w fun e w' => e = .returned (.bool true) ∧ Below w.heap.size w w' := by
  cases hm : mayB ⟨a, b, c, d, e⟩ with
  | true => exact back_yes ⟨a, b, c, d, e⟩ hm s hs w
  | false => exact back_no ⟨a, b, c, d, e⟩ hm s hs w
end Go.Proofs.Ytcooaagacdfbiaa
