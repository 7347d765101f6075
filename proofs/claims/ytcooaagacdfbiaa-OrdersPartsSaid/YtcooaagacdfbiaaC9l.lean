/- Walk of layer 9: OrdersApart. -/
import Derived.Test.YtcooaagacdfbiaaC9i
namespace Go.Proofs.Ytcooaagacdfbiaa
open Go.RowKit

theorem boxedV (w : World) (v : Array Value) (t : TypeId) : ∃ w1, w.alloc (.cells v t) = w1 ∧ Below w.heap.size w w1 ∧ w1.heap.size = w.heap.size + 1 ∧ w1.heap[w.heap.size]? = some (.cells v t (0, 0)) :=
  ⟨_, rfl, (Below.refl _ _).alloc (Nat.le_refl _) _, by simp, World.alloc_heap_new w _⟩
theorem pair_cells {w : World} {B : Nat} {x y : Value} {t : TypeId} (h : w.heap[B]? = some (.cells #[x, y] t (0, 0))) : w.cell? ⟨B, 0, none⟩ = some x ∧ w.cell? ⟨B, 1, none⟩ = some y := by
  constructor <;> simp [World.cell?, h]

theorem ord_part {o p : Ord} (h : o ≠ p) : ¬ o.id = p.id ∨ (o.id = p.id ∧ ¬ o.stream = p.stream) ∨ (o.id = p.id ∧ o.stream = p.stream ∧ ¬ o.expect = p.expect) ∨
    (o.id = p.id ∧ o.stream = p.stream ∧ o.expect = p.expect ∧ ¬ o.kind = p.kind) ∨ (o.id = p.id ∧ o.stream = p.stream ∧ o.expect = p.expect ∧ o.kind = p.kind ∧ ¬ o.arg = p.arg) := by
  cases o; cases p
  simp only [ne_eq, Ord.mk.injEq] at h
  simp only
  omega
theorem beq_no {a b : ByteArray} (h : a ≠ b) : (a.toList == b.toList) = false := by
  rw [beq_eq_false_iff_ne, ByteArray.toList_eq, ByteArray.toList_eq]
  intro e
  apply h
  cases a; cases b
  simpa using e
theorem beq_yes {a b : ByteArray} (h : a = b) : (a.toList == b.toList) = true := by subst h; simp
theorem str_inj {a b : List UInt8} (h : str a = str b) : a = b := by
  have := congrArg (fun x => x.data.toList) h
  exact this
/-- An order's bytes tell it, whatever stands behind. -/
theorem ordB_tell {o p : Ord} {x y : List UInt8} (ho : mayB o = true) (hp : mayB p = true) (h : ordB o ++ x = ordB p ++ y) : o = p ∧ x = y := by
  have h1 := takeO_tail ho x
  rw [h, takeO_tail hp y] at h1
  simp only [Option.some.injEq, Prod.mk.injEq] at h1
  obtain ⟨e, _⟩ := h1
  subst e
  exact ⟨rfl, List.append_cancel_left h⟩
theorem app_ne {o p : Ord} {a b : ByteArray} (ho : mayB o = true) (hp : mayB p = true) (h : o ≠ p ∨ a ≠ b) : (str (ordB o) ++ a) ≠ (str (ordB p) ++ b) := by
  intro e
  have e2 := congrArg (fun x => x.data.toList) e
  simp only [toList_app] at e2
  obtain ⟨h1, h2⟩ := ordB_tell ho hp e2
  rcases h with h | h
  · exact h h1
  · apply h
    cases a; cases b
    simpa using h2

set_option maxRecDepth 100000 in
set_option maxHeartbeats 4000000 in
theorem apart_yes (o p : Ord) (a b : ByteArray) (ho : mayB o = true) (hp : mayB p = true) (ha : a.size ≤ 1000) (hb : b.size ≤ 1000) (w : World) :
    Calls Try.prog 6 #[.agg #[.int .i64 o.id, .int .i64 o.stream, .int .i64 o.expect, .int .i64 o.kind, .int .i64 o.arg], .agg #[.int .i64 p.id, .int .i64 p.stream, .int .i64 p.expect, .int .i64 p.kind, .int .i64 p.arg], .agg #[.string a, .string b]] w fun e w' => e = .returned (.bool true) ∧ Below w.heap.size w w' := by
  obtain ⟨w1, e1, b1, s1, h1⟩ := boxed w o 23
  obtain ⟨w2, e2, b2, s2, h2⟩ := boxed w1 p 23
  obtain ⟨w3, e3, b3, s3, h3⟩ := boxedV w2 #[.string a, .string b] 34
  have E1 := Lib.hid e1
  have E2 := Lib.hid e2
  have E3 := Lib.hid e3
  have B3 := (b1.trans (b2.mono b1.size)).trans (b3.mono (b1.trans (b2.mono b1.size)).size)
  have hi1 : w3.heap[w.heap.size]? = some (.cells (ordCells o) 23 (0, 0)) := (b3.block _ (by omega)).trans ((b2.block _ (by omega)).trans h1)
  have hi2 : w3.heap[w1.heap.size]? = some (.cells (ordCells p) 23 (0, 0)) := (b3.block _ (by omega)).trans h2
  rw [s1] at hi2
  rw [s2, s1] at h3
  have H1 := Lib.hid hi1
  have H2 := Lib.hid hi2
  have H3 := Lib.hid h3
  have X1 := Lib.hid (encode_yes o ho)
  have X2 := Lib.hid (encode_yes p hp)
  have HN := Lib.hid (fun h => app_ne (o := o) (p := p) (a := a) (b := b) ho hp h)
  have HM := Lib.hid (fun (h : o ≠ p) => show str (ordB o) ≠ str (ordB p) from fun e => h (ordB_tell (x := []) (y := []) ho hp (by rw [str_inj e])).1)
  have z1 : (str (ordB o)).size ≤ 50 := by rw [← ordK_five, str_size]; exact ordK_len o 5
  have z2 : (str (ordB p)).size ≤ 50 := by rw [← ordK_five, str_size]; exact ordK_len p 5
  clear e1 e2 e3 h1 h2 hi1 hi2 h3 ho hp
  go_enter Try.func6, Try.ntmps6
  obtain ⟨c0, c1, c2, c3, c4⟩ := ord_cells H1.out
  obtain ⟨d0, d1⟩ := pair_cells H3.out
  go_wp2_with fail
  rw [E1.out, E2.out, E3.out]
  go_quiet (fail)
  clear c0 c1 c2 c3 c4 d0 d1
  have B4 := below_drewN B3 nq
  have H4 := Lib.hid (show (w3.drewN nq).heap[w.heap.size]? = some (.cells (ordCells o) 23 (0, 0)) from H1.out)
  have H5 := Lib.hid (show (w3.drewN nq).heap[w.heap.size + 1]? = some (.cells (ordCells p) 23 (0, 0)) from H2.out)
  have s4 : w.heap.size + 3 ≤ (w3.drewN nq).heap.size := by show _ ≤ w3.heap.size; omega
  generalize w3.drewN nq = w4 at *
  obtain ⟨c0, c1, c2, c3, c4⟩ := ord_cells H4.out
  go_wp2_with fail
  refine (X1.out _).mono ?_
  rintro e w5 ⟨rfl, b5⟩
  clear c0 c1 c2 c3 c4
  have B5 := B4.trans (b5.mono B4.size)
  have s5 := b5.size
  have H6 := Lib.hid ((b5.block _ (by omega)).trans H4.out)
  have H7 := Lib.hid ((b5.block _ (by omega)).trans H5.out)
  obtain ⟨c0, c1, c2, c3, c4⟩ := ord_cells H7.out
  go_wp2_with fail
  refine (X2.out _).mono ?_
  rintro e w6 ⟨rfl, b6⟩
  clear c0 c1 c2 c3 c4
  have B6 := B5.trans (b6.mono B5.size)
  have s6 := b6.size
  have H8 := Lib.hid ((b6.block _ (by omega)).trans H6.out)
  have H9 := Lib.hid ((b6.block _ (by omega)).trans H7.out)
  obtain ⟨c0, c1, c2, c3, c4⟩ := ord_cells H8.out
  obtain ⟨d0, d1, d2, d3, d4⟩ := ord_cells H9.out
  by_cases ht : o = p
  · subst ht
    by_cases ha2 : a = b
    · subst ha2
      go_wp2_with fail
      refine (works_any _).mono ?_
      rintro e w7 ⟨rfl, b7⟩
      go_wp2
      go_ret
      exact ⟨rfl, B6.trans (b7.mono B6.size)⟩
    · have g1 := beq_no (HN.out (.inr ha2))
      have g2 := beq_no ha2
      clear ha2
      go_wp2_with fail
      refine (works_any _).mono ?_
      rintro e w7 ⟨rfl, b7⟩
      go_wp2
      go_ret
      exact ⟨rfl, B6.trans (b7.mono B6.size)⟩
  · have g1 := beq_no (HN.out (.inl ht))
    have g2 := beq_no (HM.out ht)
    have HT := Lib.hid ht
    clear ht
    rcases ord_part HT.out with q0 | ⟨q0, q1⟩ | ⟨q0, q1, q2⟩ | ⟨q0, q1, q2, q3⟩ | ⟨q0, q1, q2, q3, q4⟩
    all_goals
      go_wp2_with fail
      refine (works_any _).mono ?_
      rintro e w7 ⟨rfl, b7⟩
      go_wp2
      go_ret
      exact ⟨rfl, B6.trans (b7.mono B6.size)⟩

set_option maxRecDepth 100000 in
set_option maxHeartbeats 4000000 in
theorem apart_skip (o p : Ord) (a b s t : ByteArray) (n m : Int)
    (h1 : ∀ w, Calls Try.prog 9 #[.agg #[.int .i64 o.id, .int .i64 o.stream, .int .i64 o.expect, .int .i64 o.kind, .int .i64 o.arg]] w fun e w' => e = .returned (.tuple #[.string s, .int .i64 n]) ∧ Below w.heap.size w w')
    (h2 : ∀ w, Calls Try.prog 9 #[.agg #[.int .i64 p.id, .int .i64 p.stream, .int .i64 p.expect, .int .i64 p.kind, .int .i64 p.arg]] w fun e w' => e = .returned (.tuple #[.string t, .int .i64 m]) ∧ Below w.heap.size w w')
    (hg : n = 2 ∨ n = 0 ∧ m = 2 ∨ n = 0 ∧ m = 0 ∧ 1000 < a.size ∨ n = 0 ∧ m = 0 ∧ a.size ≤ 1000 ∧ 1000 < b.size) (w : World) :
    Calls Try.prog 6 #[.agg #[.int .i64 o.id, .int .i64 o.stream, .int .i64 o.expect, .int .i64 o.kind, .int .i64 o.arg], .agg #[.int .i64 p.id, .int .i64 p.stream, .int .i64 p.expect, .int .i64 p.kind, .int .i64 p.arg], .agg #[.string a, .string b]] w fun e w' => e = .returned (.bool true) ∧ Below w.heap.size w w' := by
  have X1 := Lib.hid h1
  have X2 := Lib.hid h2
  clear h1 h2
  obtain ⟨w1, e1, b1, s1, h1⟩ := boxed w o 23
  obtain ⟨w2, e2, b2, s2, h2⟩ := boxed w1 p 23
  obtain ⟨w3, e3, b3, s3, h3⟩ := boxedV w2 #[.string a, .string b] 34
  have E1 := Lib.hid e1
  have E2 := Lib.hid e2
  have E3 := Lib.hid e3
  have B3 := (b1.trans (b2.mono b1.size)).trans (b3.mono (b1.trans (b2.mono b1.size)).size)
  have hi1 : w3.heap[w.heap.size]? = some (.cells (ordCells o) 23 (0, 0)) := (b3.block _ (by omega)).trans ((b2.block _ (by omega)).trans h1)
  have hi2 : w3.heap[w1.heap.size]? = some (.cells (ordCells p) 23 (0, 0)) := (b3.block _ (by omega)).trans h2
  rw [s1] at hi2
  rw [s2, s1] at h3
  have H1 := Lib.hid hi1
  have H2 := Lib.hid hi2
  have H3 := Lib.hid h3
  clear e1 e2 e3 h1 h2 hi1 hi2 h3
  rcases hg with rfl | ⟨rfl, rfl⟩ | ⟨rfl, rfl, ha⟩ | ⟨rfl, rfl, ha, hb⟩
  all_goals
    go_enter Try.func6, Try.ntmps6
    obtain ⟨c0, c1, c2, c3, c4⟩ := ord_cells H1.out
    obtain ⟨d0, d1⟩ := pair_cells H3.out
    go_wp2_with fail
    rw [E1.out, E2.out, E3.out]
    go_quiet (fail)
    clear c0 c1 c2 c3 c4 d0 d1
    have B4 := below_drewN B3 nq
    have H4 := Lib.hid (show (w3.drewN nq).heap[w.heap.size]? = some (.cells (ordCells o) 23 (0, 0)) from H1.out)
    have H5 := Lib.hid (show (w3.drewN nq).heap[w.heap.size + 1]? = some (.cells (ordCells p) 23 (0, 0)) from H2.out)
    have s4 : w.heap.size + 3 ≤ (w3.drewN nq).heap.size := by show _ ≤ w3.heap.size; omega
    generalize w3.drewN nq = w4 at *
    obtain ⟨c0, c1, c2, c3, c4⟩ := ord_cells H4.out
    go_wp2_with fail
    refine (X1.out _).mono ?_
    rintro e w5 ⟨rfl, b5⟩
    clear c0 c1 c2 c3 c4
    have B5 := B4.trans (b5.mono B4.size)
    have s5 := b5.size
    have H7 := Lib.hid ((b5.block _ (by omega)).trans H5.out)
    obtain ⟨c0, c1, c2, c3, c4⟩ := ord_cells H7.out
    go_wp2_with fail
    refine (X2.out _).mono ?_
    rintro e w6 ⟨rfl, b6⟩
    clear c0 c1 c2 c3 c4
    have B6 := B5.trans (b6.mono B5.size)
    go_wp2_with fail
    refine (works_any _).mono ?_
    rintro e w7 ⟨rfl, b7⟩
    go_wp2
    go_ret
    exact ⟨rfl, B6.trans (b7.mono B6.size)⟩

theorem ordersApart_walk (a b c d e a' b' c' d' e' : Int) (s t : ByteArray) (_ : (Lit.int .i64 a).wf = true) (_ : (Lit.int .i64 b).wf = true) (_ : (Lit.int .i64 c).wf = true) (_ : (Lit.int .i64 d).wf = true) (_ : (Lit.int .i64 e).wf = true)
    (_ : (Lit.int .i64 a').wf = true) (_ : (Lit.int .i64 b').wf = true) (_ : (Lit.int .i64 c').wf = true) (_ : (Lit.int .i64 d').wf = true) (_ : (Lit.int .i64 e').wf = true) (_ : s.size ≤ maxLen) (_ : t.size ≤ maxLen) (w : World) :
    Calls Try.prog 6 #[.agg #[.int .i64 a, .int .i64 b, .int .i64 c, .int .i64 d, .int .i64 e], .agg #[.int .i64 a', .int .i64 b', .int .i64 c', .int .i64 d', .int .i64 e'], .agg #[.string s, .string t]] w fun e w' => e = .returned (.bool true) ∧ Below w.heap.size w w' := by
  cases hm : mayB ⟨a, b, c, d, e⟩ with
  | false =>
    cases hp : mayB ⟨a', b', c', d', e'⟩ with
    | false => exact apart_skip ⟨a, b, c, d, e⟩ ⟨a', b', c', d', e'⟩ s t _ _ _ _ (encode_no _ hm) (encode_no _ hp) (.inl rfl) w
    | true => exact apart_skip ⟨a, b, c, d, e⟩ ⟨a', b', c', d', e'⟩ s t _ _ _ _ (encode_no _ hm) (encode_yes _ hp) (.inl rfl) w
  | true =>
    cases hp : mayB ⟨a', b', c', d', e'⟩ with
    | false => exact apart_skip ⟨a, b, c, d, e⟩ ⟨a', b', c', d', e'⟩ s t _ _ _ _ (encode_yes _ hm) (encode_no _ hp) (.inr (.inl ⟨rfl, rfl⟩)) w
    | true =>
      by_cases h1 : s.size ≤ 1000
      · by_cases h2 : t.size ≤ 1000
        · exact apart_yes ⟨a, b, c, d, e⟩ ⟨a', b', c', d', e'⟩ s t hm hp h1 h2 w
        · exact apart_skip ⟨a, b, c, d, e⟩ ⟨a', b', c', d', e'⟩ s t _ _ _ _ (encode_yes _ hm) (encode_yes _ hp) (.inr (.inr (.inr ⟨rfl, rfl, h1, by omega⟩))) w
      · exact apart_skip ⟨a, b, c, d, e⟩ ⟨a', b', c', d', e'⟩ s t _ _ _ _ (encode_yes _ hm) (encode_yes _ hp) (.inr (.inr (.inl ⟨rfl, rfl, by omega⟩))) w
end Go.Proofs.Ytcooaagacdfbiaa
