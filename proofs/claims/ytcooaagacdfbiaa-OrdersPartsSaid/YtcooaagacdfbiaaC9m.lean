/- Walk of layer 9: OrdersParts. -/
import Derived.Test.YtcooaagacdfbiaaC9l
namespace Go.Proofs.Ytcooaagacdfbiaa
open Go.RowKit

theorem ordK_part (o : Ord) (k : Nat) (hk : k < 5) : ∃ y, ordB o = ordK o k ++ Marks.put (o.fld k) ++ y := by
  have h : ∀ j, k + 1 + j ≤ 5 → ∃ y, ordK o (k + 1 + j) = ordK o (k + 1) ++ y := by
    intro j
    induction j with
    | zero => intro _; exact ⟨[], by simp⟩
    | succ j ih =>
      intro hj
      obtain ⟨y, hy⟩ := ih (by omega)
      refine ⟨y ++ Marks.put (o.fld (k + 1 + j)), ?_⟩
      rw [show k + 1 + (j + 1) = k + 1 + j + 1 by omega, ordK, hy, List.append_assoc]
  obtain ⟨y, hy⟩ := h (4 - k) (by omega)
  refine ⟨y, ?_⟩
  rw [← ordK_five, show (5 : Nat) = k + 1 + (4 - k) by omega, hy]
  rfl
/-- The k-th number of an order's bytes. -/
theorem parts_get {o : Ord} (hm : mayB o = true) (k : Nat) (hk : k < 5) : getI (ordB o) ((ordK o k).length : Nat) = some (o.fld k, (ordK o (k + 1)).length) := by
  obtain ⟨y, hy⟩ := ordK_part o k hk
  have hb := mayB_i64 hm k hk
  rw [hy, getI_put _ _ _ hb.1 hb.2, ordK, List.length_append]

set_option maxRecDepth 100000 in
set_option maxHeartbeats 4000000 in
theorem parts_no (o : Ord) (hm : mayB o = false) (w : World) :
    Calls Try.prog 7 #[.agg #[.int .i64 o.id, .int .i64 o.stream, .int .i64 o.expect, .int .i64 o.kind, .int .i64 o.arg]] w fun e w' => e = .returned (.bool true) ∧ Below w.heap.size w w' := by
  obtain ⟨w1, e1, b1, s1, h1⟩ := boxed w o 23
  have E1 := Lib.hid e1
  have X1 := Lib.hid (encode_no o hm)
  obtain ⟨c0, c1, c2, c3, c4⟩ := ord_cells h1
  clear e1 h1 hm
  go_enter Try.func7, Try.ntmps7
  go_wp2_with fail
  rw [E1.out]
  refine (X1.out _).mono ?_
  rintro e w2 ⟨rfl, b2⟩
  have B2 := b1.trans (b2.mono b1.size)
  go_wp2_with fail
  refine (works_any _).mono ?_
  rintro e w3 ⟨rfl, b3⟩
  go_wp2
  go_ret
  exact ⟨rfl, B2.trans (b3.mono B2.size)⟩

set_option maxRecDepth 100000 in
set_option maxHeartbeats 4000000 in
theorem parts_yes (o : Ord) (hm : mayB o = true) (w : World) :
    Calls Try.prog 7 #[.agg #[.int .i64 o.id, .int .i64 o.stream, .int .i64 o.expect, .int .i64 o.kind, .int .i64 o.arg]] w fun e w' => e = .returned (.bool true) ∧ Below w.heap.size w w' := by
  obtain ⟨w1, e1, b1, s1, h1⟩ := boxed w o 23
  have E1 := Lib.hid e1
  have H1 := Lib.hid h1
  have X1 := Lib.hid (encode_yes o hm)
  have hz : (str (ordB o)).size ≤ 50 := by rw [← ordK_five, str_size]; exact ordK_len o 5
  have XP := Lib.hid (fun k (hk : k < 5) => get_yes (s := str (ordB o)) (by unfold maxLen; omega) (parts_get hm k hk))
  have hl5 := Lib.hid (show ((ordK o 5).length : Int) = (str (ordB o)).size by rw [ordK_five, str_size])
  clear e1 h1 hm
  go_enter Try.func7, Try.ntmps7
  obtain ⟨c0, c1, c2, c3, c4⟩ := ord_cells H1.out
  go_wp2_with fail
  rw [E1.out]
  refine (X1.out _).mono ?_
  rintro e w2 ⟨rfl, b2⟩
  clear c0 c1 c2 c3 c4
  have B2 := b1.trans (b2.mono b1.size)
  have s2 := b2.size
  obtain ⟨c0, c1, c2, c3, c4⟩ := ord_cells ((b2.block _ (by omega)).trans H1.out)
  obtain ⟨w3, e3, b3, s3, h3⟩ := boxedV w2 (ordCells o) 3
  have E3 := Lib.hid (show w2.alloc (.cells #[.int .i64 o.id, .int .i64 o.stream, .int .i64 o.expect, .int .i64 o.kind, .int .i64 o.arg] 3) = w3 from e3)
  have B3 := B2.trans (b3.mono B2.size)
  have H3 := Lib.hid h3
  clear e3 h3
  go_wp2_with fail
  rw [E3.out]
  clear c0 c1 c2 c3 c4
  go_loop [6, 7] (fun p i => ∃ k : Nat, k ≤ 5 ∧ i = .int .i64 k ∧ p = .int .i64 ((ordK o k).length : Nat)) (fun _ i => 5 - (intOf i).toNat)
  case atStart => exact ⟨0, Nat.zero_le _, rfl, rfl⟩
  case round =>
    obtain ⟨k, hk, rfl, rfl⟩ := hrel
    by_cases hlt : k < 5
    · have XG := Lib.hid (XP.out k hlt)
      have hc := ord_cell H3.out k hlt
      go_wp2_with fail
      refine (XG.out _).mono ?_
      rintro e w4 ⟨rfl, rfl⟩
      go_wp2
      go_round
      case rel => exact ⟨k + 1, by omega, by go_num, rfl⟩
      case measure => simp [intOf]; omega
    · obtain rfl : k = 5 := by omega
      have d1 : (((ordK o 5).length : Int) == (str (ordB o)).size) = true := by rw [hl5.out]; simp
      go_wp2_with fail
      refine (works_any _).mono ?_
      rintro e w4 ⟨rfl, b4⟩
      go_wp2
      go_ret
      exact ⟨rfl, B3.trans (b4.mono B3.size)⟩
theorem ordersParts_walk (a b c d e : Int) (_ : (Lit.int .i64 a).wf = true) (_ : (Lit.int .i64 b).wf = true) (_ : (Lit.int .i64 c).wf = true) (_ : (Lit.int .i64 d).wf = true) (_ : (Lit.int .i64 e).wf = true) (w : World) :
    Calls Try.prog 7 #[.agg #[.int .i64 a, .int .i64 b, .int .i64 c, .int .i64 d, .int .i64 e]] w fun e w' => e = .returned (.bool true) ∧ Below w.heap.size w w' := by
  cases hm : mayB ⟨a, b, c, d, e⟩ with
  | true => exact parts_yes ⟨a, b, c, d, e⟩ hm w
  | false => exact parts_no ⟨a, b, c, d, e⟩ hm w
end Go.Proofs.Ytcooaagacdfbiaa
