/- Walks of layer 9: Encode, Decode. -/
import Derived.Test.YtcooaagacdfbiaaC9f
namespace Go.Proofs.Ytcooaagacdfbiaa
open Go.RowKit

theorem refCheck_yes {o : Ord} (h : mayB o = true) (w : World) :
    Calls Try.prog 12 #[.agg #[.int .i64 o.id, .int .i64 o.stream, .int .i64 o.expect, .int .i64 o.kind, .int .i64 o.arg]] w fun e w' => e = .returned (.int .i64 0) ∧ Below w.heap.size w w' := by
  have := refCheck_any o w
  rw [h] at this; exact this
theorem refCheck_no {o : Ord} (h : mayB o = false) (w : World) :
    Calls Try.prog 12 #[.agg #[.int .i64 o.id, .int .i64 o.stream, .int .i64 o.expect, .int .i64 o.kind, .int .i64 o.arg]] w fun e w' => e = .returned (.int .i64 2) ∧ Below w.heap.size w w' := by
  have := refCheck_any o w
  rw [h] at this; exact this
theorem refDecode_yes {s : ByteArray} {o : Ord} (hs : s.size ≤ maxLen) (h : decO s.data.toList = some o) (w : World) :
    Calls Try.prog 15 #[.string s] w fun e w' => e = .returned (.tuple #[.agg #[.int .i64 o.id, .int .i64 o.stream, .int .i64 o.expect, .int .i64 o.kind, .int .i64 o.arg], .int .i64 0]) ∧ Below w.heap.size w w' := by
  have := refDecode_any s hs w
  rw [h] at this; exact this
theorem refDecode_no {s : ByteArray} (hs : s.size ≤ maxLen) (h : decO s.data.toList = none) (w : World) :
    Calls Try.prog 15 #[.string s] w fun e w' => e = .returned (.tuple #[.agg #[.int .i64 0, .int .i64 0, .int .i64 0, .int .i64 0, .int .i64 0], .int .i64 30]) ∧ Below w.heap.size w w' := by
  have := refDecode_any s hs w
  rw [h] at this; exact this
/-- An order in a box of its own. -/
theorem boxed (w : World) (o : Ord) (t : TypeId) : ∃ w1, w.alloc (.cells #[.int .i64 o.id, .int .i64 o.stream, .int .i64 o.expect, .int .i64 o.kind, .int .i64 o.arg] t) = w1 ∧ Below w.heap.size w w1 ∧ w1.heap.size = w.heap.size + 1 ∧ w1.heap[w.heap.size]? = some (.cells (ordCells o) t (0, 0)) :=
  ⟨_, rfl, (Below.refl _ _).alloc (Nat.le_refl _) _, by simp, World.alloc_heap_new w _⟩

set_option maxRecDepth 100000 in
set_option maxHeartbeats 4000000 in
theorem encodeO_walk (o : Ord) (w : World) :
    Calls Try.prog 3 #[.agg #[.int .i64 o.id, .int .i64 o.stream, .int .i64 o.expect, .int .i64 o.kind, .int .i64 o.arg]] w fun e w' => e = .returned (.bool true) ∧ Below w.heap.size w w' := by
  obtain ⟨w1, e1, b1, s1, h1⟩ := boxed w o 23
  have E1 := Lib.hid e1
  have H1 := Lib.hid h1
  clear e1 h1
  cases hm : mayB o with
  | true =>
    have X1 := Lib.hid (encode_yes o hm)
    have X2 := Lib.hid (refEncode_yes o hm)
    have X3 := Lib.hid (check_yes hm)
    have X4 := Lib.hid (refCheck_yes hm)
    have hsz : (str (ordB o)).size ≤ 50 := by rw [← ordK_five, str_size]; exact ordK_len o 5
    clear hm
    go_enter Try.func3, Try.ntmps3
    obtain ⟨c0, c1, c2, c3, c4⟩ := ord_cells H1.out
    go_wp2_with fail
    rw [E1.out]
    refine (X1.out _).mono ?_
    rintro e w2 ⟨rfl, b2⟩
    clear c0 c1 c2 c3 c4
    have B2 := b1.trans (b2.mono b1.size)
    have s2 := b2.size
    have H2 := Lib.hid ((b2.block _ (by omega)).trans H1.out)
    obtain ⟨c0, c1, c2, c3, c4⟩ := ord_cells H2.out
    go_wp2_with fail
    refine (X2.out _).mono ?_
    rintro e w3 ⟨rfl, b3⟩
    clear c0 c1 c2 c3 c4
    have B3 := B2.trans (b3.mono B2.size)
    have s3 := b3.size
    have H3 := Lib.hid ((b3.block _ (by omega)).trans H2.out)
    obtain ⟨c0, c1, c2, c3, c4⟩ := ord_cells H3.out
    go_wp2_with fail
    have k0 := cell_regrown c0
    have k1 := cell_regrown c1
    have k2 := cell_regrown c2
    have k3 := cell_regrown c3
    have k4 := cell_regrown c4
    refine wp_region_quiet_below (by kernel_rfl) (by kernel_rfl) ?_
    repeat (go_big_quiet_step ((first | (go_at_call 11; exact Calls.regrown_of (X3.out _)) | (go_at_call 12; exact Calls.regrown_of (X4.out _)) | (go_at_call 13; exact Calls.regrown_of (works_any _)))))
    refine wpQuiet_nil ?_
    intro _ hw'
    obtain ⟨⟨dq, osq⟩, hw''⟩ := hw'
    subst hw''
    have hb4 := below_regrown w3 dq osq
    clear k0 k1 k2 k3 k4
    generalize Sort.grow (redrawn w3 dq) osq = wq at *
    go_wp2
    go_ret
    exact ⟨rfl, B3.trans (hb4.mono B3.size)⟩
  | false =>
    have X1 := Lib.hid (encode_no o hm)
    have X2 := Lib.hid (refEncode_no o hm)
    have X3 := Lib.hid (check_no hm)
    have X4 := Lib.hid (refCheck_no hm)
    clear hm
    go_enter Try.func3, Try.ntmps3
    obtain ⟨c0, c1, c2, c3, c4⟩ := ord_cells H1.out
    go_wp2_with fail
    rw [E1.out]
    refine (X1.out _).mono ?_
    rintro e w2 ⟨rfl, b2⟩
    clear c0 c1 c2 c3 c4
    have B2 := b1.trans (b2.mono b1.size)
    have s2 := b2.size
    have H2 := Lib.hid ((b2.block _ (by omega)).trans H1.out)
    obtain ⟨c0, c1, c2, c3, c4⟩ := ord_cells H2.out
    go_wp2_with fail
    refine (X2.out _).mono ?_
    rintro e w3 ⟨rfl, b3⟩
    clear c0 c1 c2 c3 c4
    have B3 := B2.trans (b3.mono B2.size)
    have s3 := b3.size
    have H3 := Lib.hid ((b3.block _ (by omega)).trans H2.out)
    obtain ⟨c0, c1, c2, c3, c4⟩ := ord_cells H3.out
    go_wp2_with fail
    have k0 := cell_regrown c0
    have k1 := cell_regrown c1
    have k2 := cell_regrown c2
    have k3 := cell_regrown c3
    have k4 := cell_regrown c4
    refine wp_region_quiet_below (by kernel_rfl) (by kernel_rfl) ?_
    repeat (go_big_quiet_step ((first | (go_at_call 11; exact Calls.regrown_of (X3.out _)) | (go_at_call 12; exact Calls.regrown_of (X4.out _)) | (go_at_call 13; exact Calls.regrown_of (works_any _)))))
    refine wpQuiet_nil ?_
    intro _ hw'
    obtain ⟨⟨dq, osq⟩, hw''⟩ := hw'
    subst hw''
    have hb4 := below_regrown w3 dq osq
    clear k0 k1 k2 k3 k4
    generalize Sort.grow (redrawn w3 dq) osq = wq at *
    go_wp2
    go_ret
    exact ⟨rfl, B3.trans (hb4.mono B3.size)⟩
theorem ordersEncode_walk (a b c d e : Int) (_ : (Lit.int .i64 a).wf = true) (_ : (Lit.int .i64 b).wf = true) (_ : (Lit.int .i64 c).wf = true) (_ : (Lit.int .i64 d).wf = true) (_ : (Lit.int .i64 e).wf = true) (w : World) :
    Calls Try.prog 3 #[.agg #[.int .i64 a, .int .i64 b, .int .i64 c, .int .i64 d, .int .i64 e]] w fun e w' => e = .returned (.bool true) ∧ Below w.heap.size w w' := encodeO_walk ⟨a, b, c, d, e⟩ w
end Go.Proofs.Ytcooaagacdfbiaa
