/- The reference's Decode of records. (Printed by wip/src/XC10G.py.) -/
import Derived.Test.YtalilifegclelaaC10F
namespace Go.Proofs.Ytalilifegclelaa
open Go.RowKit

theorem Wrote.both {R T : Nat} {w w' : World} (h : Wrote R R w w') : Wrote R T w w' := ⟨h.below, fun k hk h1 _ => h.other k hk h1 h1⟩
theorem Wrote.flip {R T : Nat} {w w' : World} (h : Wrote R T w w') : Wrote T R w w' := ⟨h.below, fun k hk h1 h2 => h.other k hk h2 h1⟩
theorem wrote_grown2 {R T B : Nat} {w0 w w' : World} {v : Value} {e : TypeId} {n sz : Nat} {xs : List Value} (h : Wrote R T w0 w) (hown : w.ownsRow B e sz v n xs) (hg : w.grownBy w' v.ownBlock) (hB : w0.heap.size ≤ B) : Wrote R T w0 w' := by
  refine ⟨h.below.grown hg (Nat.zero_le _) (fun _ _ => Nat.zero_le _), fun k hk h1 h2 => (hg.block k (Nat.lt_of_lt_of_le hk h.below.size) (fun e => ?_)).trans (h.other k hk h1 h2)⟩
  rcases hown.2 with ⟨rfl, _⟩ | ⟨g, cap, cur, rfl, hBg, _, _⟩
  · cases e
  · have : k = g := by simpa [Value.ownBlock] using e
    omega
theorem owns_wrote2 {B R T n sz : Nat} {e : TypeId} {w w' : World} {v : Value} {xs : List Value} (h : w.ownsRow B e sz v n xs) (hW : Wrote R T w w') (hR : R < B) (hT : T < B) : w'.ownsRow B e sz v n xs := by
  refine ⟨h.1, h.2.imp_right ?_⟩
  rintro ⟨g, cap, cur, rfl, hg, hh, rest⟩
  exact ⟨g, cap, cur, rfl, hg, (hW.other g (Array.getElem?_eq_some_iff.1 hh).1 (by omega) (by omega)).trans hh, rest⟩
theorem owns_slice {B n sz : Nat} {e : TypeId} {w : World} {v : Value} {xs : List Value} (h : w.ownsRow B e sz v n xs) : ∃ a c, v = .slice a n c := by
  rcases h.2 with ⟨rfl, rfl⟩ | ⟨g, cap, cur, rfl, _⟩
  · exact ⟨_, _, rfl⟩
  · exact ⟨_, _, rfl⟩
/-- A cell of another block is stored. -/
theorem set_to {R X : Nat} {w0 w : World} (h : Wrote R X w0 w) (v : Value) (o : Nat) {cs : Array Value} {t : TypeId} (hX : w.heap[X]? = some (.cells cs t (0, 0))) :
    (w.setCell ⟨X, o, none⟩ v).heap[X]? = some (.cells (cs.setIfInBounds o v) t (0, 0)) ∧ (∀ k, k ≠ X → (w.setCell ⟨X, o, none⟩ v).heap[k]? = w.heap[k]?) ∧ Wrote R X w0 (w.setCell ⟨X, o, none⟩ v) := by
  rw [setCell_eq_setRow _ X o _ t _ _ hX]
  exact ⟨setRow_heap _ _ _ _ _ _ hX, fun k hk => setRow_other _ _ _ _ hk, h.row (.inr rfl) _⟩
/-- Six ints, one behind the other. -/
theorem rd6 {s : List UInt8} {a : Nat} {b : Bool} {p1 p2 p3 p4 p5 p6 : List Int × Nat × Bool} (h1 : rdL s 1 a b = p1) (h2 : rdL s 1 p1.2.1 p1.2.2 = p2) (h3 : rdL s 1 p2.2.1 p2.2.2 = p3) (h4 : rdL s 1 p3.2.1 p3.2.2 = p4) (h5 : rdL s 1 p4.2.1 p4.2.2 = p5) (h6 : rdL s 1 p5.2.1 p5.2.2 = p6) :
    rdNum (rdL s 6 a b).1 = ⟨p1.1.getD 0 0, p2.1.getD 0 0, p3.1.getD 0 0, p4.1.getD 0 0, p5.1.getD 0 0, p6.1.getD 0 0⟩ ∧ (rdL s 6 a b).2 = p6.2 := by
  obtain ⟨a0, b0, c0⟩ := rdL_split s 5 a b
  rw [h1] at a0 b0 c0
  obtain ⟨a1, b1, c1⟩ := rdL_split s 4 p1.2.1 p1.2.2
  rw [h2] at a1 b1 c1
  obtain ⟨a2, b2, c2⟩ := rdL_split s 3 p2.2.1 p2.2.2
  rw [h3] at a2 b2 c2
  obtain ⟨a3, b3, c3⟩ := rdL_split s 2 p3.2.1 p3.2.2
  rw [h4] at a3 b3 c3
  obtain ⟨a4, b4, c4⟩ := rdL_split s 1 p4.2.1 p4.2.2
  rw [h5] at a4 b4 c4
  rw [h6] at b4 c4
  refine ⟨?_, by rw [c0, c1, c2, c3, c4]⟩
  unfold rdNum
  rw [a0, b0 0, a1, b0 1, b1 0, a2, b0 2, b1 1, b2 0, a3, b0 3, b1 2, b2 1, b3 0, a4, b0 4, b1 3, b2 2, b3 1, b4 0]
theorem rd2 {s : List UInt8} {a : Nat} {b : Bool} {p1 p2 : List Int × Nat × Bool} (h1 : rdL s 1 a b = p1) (h2 : rdL s 1 p1.2.1 p1.2.2 = p2) : rdSpt s a b = (⟨p1.1.getD 0 0, p2.1.getD 0 0⟩, p2.2) := by
  obtain ⟨a0, b0, c0⟩ := rdL_split s 1 a b
  rw [h1] at a0 b0 c0
  rw [h2] at b0 c0
  unfold rdSpt
  rw [a0, b0 0, c0]

/-- The memory that the reference's Decode begins with. -/
theorem decRef_world (w : World) (s : ByteArray) : ∃ w3, (((w.alloc (.cells noRec 25)).alloc (.cells (rdCells s 0 false) 66)).alloc (.cells noRec 25)) = w3 ∧ Below w.heap.size w w3 ∧ w3.heap.size = w.heap.size + 3 ∧
    w3.heap[w.heap.size]? = some (.cells noRec 25 (0, 0)) ∧ w3.heap[w.heap.size + 1]? = some (.cells (rdCells s 0 false) 66 (0, 0)) ∧ w3.heap[w.heap.size + 2]? = some (.cells noRec 25 (0, 0)) := by
  obtain ⟨w1, e1, b1, s1, h1⟩ := boxed w noRec 25
  obtain ⟨w2, e2, b2, s2, h2⟩ := boxed w1 (rdCells s 0 false) 66
  obtain ⟨w3, e3, b3, s3, h3⟩ := boxed w2 noRec 25
  rw [e1, e2, e3]
  rw [s1] at h2
  rw [s2, s1] at h3
  refine ⟨w3, rfl, b1.trans ((b2.mono b1.size).trans (b3.mono (by omega))), by omega, ?_, ?_, h3⟩
  · rw [b3.block _ (by omega), b2.block _ (by omega)]; exact h1
  · rw [b3.block _ (by omega)]; exact h2

set_option maxRecDepth 100000 in
set_option maxHeartbeats 8000000 in
theorem decRef_any {s : ByteArray} (hs : s.size ≤ 900000) (w : World) :
    Calls Try.prog 17 #[.string s] w (DecOut w (decR s.data.toList)) := by
  obtain ⟨w3, e3, b3, s3, d3, r3, x3⟩ := decRef_world w s
  have hsm : s.size ≤ maxLen := Nat.le_trans hs (by decide)
  have E3 := Lib.hid (show (((w.alloc (.cells #[.int .i64 0, .int .i64 0, .int .i64 0, .int .i64 0, .int .i64 0, .int .i64 0, .slice none 0 0, .slice none 0 0] 25)).alloc (.cells #[.string s, .int .i64 0, .bool false] 66)).alloc
      (.cells #[.int .i64 0, .int .i64 0, .int .i64 0, .int .i64 0, .int .i64 0, .int .i64 0, .slice none 0 0, .slice none 0 0] 25)) = w3 from e3)
  obtain ⟨p1, q1⟩ : ∃ p, rdL s.data.toList 1 0 false = p := ⟨_, rfl⟩
  obtain ⟨p2, q2⟩ : ∃ p, rdL s.data.toList 1 p1.2.1 p1.2.2 = p := ⟨_, rfl⟩
  obtain ⟨p3, q3⟩ : ∃ p, rdL s.data.toList 1 p2.2.1 p2.2.2 = p := ⟨_, rfl⟩
  obtain ⟨p4, q4⟩ : ∃ p, rdL s.data.toList 1 p3.2.1 p3.2.2 = p := ⟨_, rfl⟩
  obtain ⟨p5, q5⟩ : ∃ p, rdL s.data.toList 1 p4.2.1 p4.2.2 = p := ⟨_, rfl⟩
  obtain ⟨p6, q6⟩ : ∃ p, rdL s.data.toList 1 p5.2.1 p5.2.2 = p := ⟨_, rfl⟩
  obtain ⟨f1, f2⟩ := rd6 q1 q2 q3 q4 q5 q6
  have hp6 := rdL_pos (s := s.data.toList) 6 0 false (Nat.zero_le _)
  rw [bytes_len, f2] at hp6
  have hNO := rdNum_ok s.data.toList 6 0 false
  rw [f1] at hNO
  have hd0 : decR s.data.toList = if (rdSptL s.data.toList (rdEntL s.data.toList p6.2.1 p6.2.2).2.1 (rdEntL s.data.toList p6.2.1 p6.2.2).2.2).2.2 = false ∧ mayR (rdNum (rdL s.data.toList 6 0 false).1) (rdEntL s.data.toList p6.2.1 p6.2.2).1 (rdSptL s.data.toList (rdEntL s.data.toList p6.2.1 p6.2.2).2.1 (rdEntL s.data.toList p6.2.1 p6.2.2).2.2).1 = true ∧
      encR (rdNum (rdL s.data.toList 6 0 false).1) (rdEntL s.data.toList p6.2.1 p6.2.2).1 (rdSptL s.data.toList (rdEntL s.data.toList p6.2.1 p6.2.2).2.1 (rdEntL s.data.toList p6.2.1 p6.2.2).2.2).1 = s.data.toList then some (rdNum (rdL s.data.toList 6 0 false).1, (rdEntL s.data.toList p6.2.1 p6.2.2).1, (rdSptL s.data.toList (rdEntL s.data.toList p6.2.1 p6.2.2).2.1 (rdEntL s.data.toList p6.2.1 p6.2.2).2.2).1) else none := by
    rw [← f2]; rfl
  rw [f1] at hd0
  have HD0 := Lib.hid hd0
  have X1 := rInt_any hsm r3
  rw [q1] at X1
  unfold IntOut at X1
  have D3 := Lib.hid d3
  have XX3 := Lib.hid x3
  generalize hn1 : p1.1.getD 0 0 = n1 at *
  generalize hn2 : p2.1.getD 0 0 = n2 at *
  generalize hn3 : p3.1.getD 0 0 = n3 at *
  generalize hn4 : p4.1.getD 0 0 = n4 at *
  generalize hn5 : p5.1.getD 0 0 = n5 at *
  generalize hn6 : p6.1.getD 0 0 = n6 at *
  have X1 := Lib.hid X1
  have Q2 := Lib.hid q2
  have Q3 := Lib.hid q3
  have Q4 := Lib.hid q4
  have Q5 := Lib.hid q5
  have Q6 := Lib.hid q6
  have N2 := Lib.hid hn2
  have N3 := Lib.hid hn3
  have N4 := Lib.hid hn4
  have N5 := Lib.hid hn5
  have N6 := Lib.hid hn6
  have HNO := Lib.hid hNO
  clear e3 d3 r3 x3 f1 f2 q1 q2 q3 q4 q5 q6 hd0 hNO hn1 hn2 hn3 hn4 hn5 hn6
  go_enter Try.func17, Try.ntmps17
  go_upto_region 3 with fail
  rw [E3.out]
  go_wp2_with fail
  refine X1.out.mono ?_
  rintro e w4 ⟨rfl, r4, hW4⟩
  have hx4 := (hW4.other (w.heap.size + 2) (by omega) (by omega) (by omega)).trans XX3.out
  have hV4 : Wrote (w.heap.size + 1) (w.heap.size + 1 + 1) w3 w4 := hW4.both
  obtain ⟨v4, e4⟩ : ∃ v, w4.setCell ⟨w.heap.size + 1 + 1, 0, none⟩ (.int .i64 n1) = v := ⟨_, rfl⟩
  have c4 : w4.cell? ⟨w.heap.size + 1 + 1, 0, none⟩ = some (.int .i64 0) := by simp [World.cell?, hx4, noRec, recCells, noNum]
  have f4 := thawed hx4 0
  obtain ⟨x4, k4, hU4⟩ := set_to (X := w.heap.size + 1 + 1) hV4 (.int .i64 n1) 0 hx4
  rw [e4] at x4 k4 hU4
  have XC4 := Lib.hid (show v4.heap[w.heap.size + 1 + 1]? = some (.cells (recCells ⟨n1, 0, 0, 0, 0, 0⟩ (.slice none 0 0) (.slice none 0 0)) 25 (0, 0)) from x4)
  have E4 := Lib.hid e4
  have hs4 := hU4.below.size
  have rr4 := (k4 (w.heap.size + 1) (by omega)).trans r4
  have X2 := rInt_any hsm rr4
  rw [Q2.out] at X2
  unfold IntOut at X2
  rw [N2.out] at X2
  have X2 := Lib.hid X2
  clear e4 x4 k4 r4 rr4 hx4
  go_wp2_with fail
  rw [E4.out]
  refine X2.out.mono ?_
  rintro e w5 ⟨rfl, r5, hW5⟩
  have hx5 := (hW5.other (w.heap.size + 1 + 1) (by omega) (by omega) (by omega)).trans XC4.out
  have hV5 : Wrote (w.heap.size + 1) (w.heap.size + 1 + 1) w3 w5 := hU4.trans hW5.both
  clear c4 f4 hV4 hU4 hW4 XC4 E4
  obtain ⟨v5, e5⟩ : ∃ v, w5.setCell ⟨w.heap.size + 1 + 1, 1, none⟩ (.int .i64 n2) = v := ⟨_, rfl⟩
  have c5 : w5.cell? ⟨w.heap.size + 1 + 1, 1, none⟩ = some (.int .i64 0) := by simp [World.cell?, hx5, recCells]
  have f5 := thawed hx5 1
  obtain ⟨x5, k5, hU5⟩ := set_to (X := w.heap.size + 1 + 1) hV5 (.int .i64 n2) 1 hx5
  rw [e5] at x5 k5 hU5
  have XC5 := Lib.hid (show v5.heap[w.heap.size + 1 + 1]? = some (.cells (recCells ⟨n1, n2, 0, 0, 0, 0⟩ (.slice none 0 0) (.slice none 0 0)) 25 (0, 0)) from x5)
  have E5 := Lib.hid e5
  have hs5 := hU5.below.size
  have rr5 := (k5 (w.heap.size + 1) (by omega)).trans r5
  have X3 := rInt_any hsm rr5
  rw [Q3.out] at X3
  unfold IntOut at X3
  rw [N3.out] at X3
  have X3 := Lib.hid X3
  clear e5 x5 k5 r5 rr5 hx5
  go_wp2_with fail
  rw [E5.out]
  refine X3.out.mono ?_
  rintro e w6 ⟨rfl, r6, hW6⟩
  have hx6 := (hW6.other (w.heap.size + 1 + 1) (by omega) (by omega) (by omega)).trans XC5.out
  have hV6 : Wrote (w.heap.size + 1) (w.heap.size + 1 + 1) w3 w6 := hU5.trans hW6.both
  clear c5 f5 hV5 hU5 hW5 XC5 E5
  obtain ⟨v6, e6⟩ : ∃ v, w6.setCell ⟨w.heap.size + 1 + 1, 2, none⟩ (.int .i64 n3) = v := ⟨_, rfl⟩
  have c6 : w6.cell? ⟨w.heap.size + 1 + 1, 2, none⟩ = some (.int .i64 0) := by simp [World.cell?, hx6, recCells]
  have f6 := thawed hx6 2
  obtain ⟨x6, k6, hU6⟩ := set_to (X := w.heap.size + 1 + 1) hV6 (.int .i64 n3) 2 hx6
  rw [e6] at x6 k6 hU6
  have XC6 := Lib.hid (show v6.heap[w.heap.size + 1 + 1]? = some (.cells (recCells ⟨n1, n2, n3, 0, 0, 0⟩ (.slice none 0 0) (.slice none 0 0)) 25 (0, 0)) from x6)
  have E6 := Lib.hid e6
  have hs6 := hU6.below.size
  have rr6 := (k6 (w.heap.size + 1) (by omega)).trans r6
  have X4 := rInt_any hsm rr6
  rw [Q4.out] at X4
  unfold IntOut at X4
  rw [N4.out] at X4
  have X4 := Lib.hid X4
  clear e6 x6 k6 r6 rr6 hx6
  go_wp2_with fail
  rw [E6.out]
  refine X4.out.mono ?_
  rintro e w7 ⟨rfl, r7, hW7⟩
  have hx7 := (hW7.other (w.heap.size + 1 + 1) (by omega) (by omega) (by omega)).trans XC6.out
  have hV7 : Wrote (w.heap.size + 1) (w.heap.size + 1 + 1) w3 w7 := hU6.trans hW7.both
  clear c6 f6 hV6 hU6 hW6 XC6 E6
  obtain ⟨v7, e7⟩ : ∃ v, w7.setCell ⟨w.heap.size + 1 + 1, 3, none⟩ (.int .i64 n4) = v := ⟨_, rfl⟩
  have c7 : w7.cell? ⟨w.heap.size + 1 + 1, 3, none⟩ = some (.int .i64 0) := by simp [World.cell?, hx7, recCells]
  have f7 := thawed hx7 3
  obtain ⟨x7, k7, hU7⟩ := set_to (X := w.heap.size + 1 + 1) hV7 (.int .i64 n4) 3 hx7
  rw [e7] at x7 k7 hU7
  have XC7 := Lib.hid (show v7.heap[w.heap.size + 1 + 1]? = some (.cells (recCells ⟨n1, n2, n3, n4, 0, 0⟩ (.slice none 0 0) (.slice none 0 0)) 25 (0, 0)) from x7)
  have E7 := Lib.hid e7
  have hs7 := hU7.below.size
  have rr7 := (k7 (w.heap.size + 1) (by omega)).trans r7
  have X5 := rInt_any hsm rr7
  rw [Q5.out] at X5
  unfold IntOut at X5
  rw [N5.out] at X5
  have X5 := Lib.hid X5
  clear e7 x7 k7 r7 rr7 hx7
  go_wp2_with fail
  rw [E7.out]
  refine X5.out.mono ?_
  rintro e w8 ⟨rfl, r8, hW8⟩
  have hx8 := (hW8.other (w.heap.size + 1 + 1) (by omega) (by omega) (by omega)).trans XC7.out
  have hV8 : Wrote (w.heap.size + 1) (w.heap.size + 1 + 1) w3 w8 := hU7.trans hW8.both
  clear c7 f7 hV7 hU7 hW7 XC7 E7
  obtain ⟨v8, e8⟩ : ∃ v, w8.setCell ⟨w.heap.size + 1 + 1, 4, none⟩ (.int .i64 n5) = v := ⟨_, rfl⟩
  have c8 : w8.cell? ⟨w.heap.size + 1 + 1, 4, none⟩ = some (.int .i64 0) := by simp [World.cell?, hx8, recCells]
  have f8 := thawed hx8 4
  obtain ⟨x8, k8, hU8⟩ := set_to (X := w.heap.size + 1 + 1) hV8 (.int .i64 n5) 4 hx8
  rw [e8] at x8 k8 hU8
  have XC8 := Lib.hid (show v8.heap[w.heap.size + 1 + 1]? = some (.cells (recCells ⟨n1, n2, n3, n4, n5, 0⟩ (.slice none 0 0) (.slice none 0 0)) 25 (0, 0)) from x8)
  have E8 := Lib.hid e8
  have hs8 := hU8.below.size
  have rr8 := (k8 (w.heap.size + 1) (by omega)).trans r8
  have X6 := rInt_any hsm rr8
  rw [Q6.out] at X6
  unfold IntOut at X6
  rw [N6.out] at X6
  have X6 := Lib.hid X6
  clear e8 x8 k8 r8 rr8 hx8
  go_wp2_with fail
  rw [E8.out]
  refine X6.out.mono ?_
  rintro e w9 ⟨rfl, r9, hW9⟩
  have hx9 := (hW9.other (w.heap.size + 1 + 1) (by omega) (by omega) (by omega)).trans XC8.out
  have hV9 : Wrote (w.heap.size + 1) (w.heap.size + 1 + 1) w3 w9 := hU8.trans hW9.both
  clear c8 f8 hV8 hU8 hW8 XC8 E8
  obtain ⟨v9, e9⟩ : ∃ v, w9.setCell ⟨w.heap.size + 1 + 1, 5, none⟩ (.int .i64 n6) = v := ⟨_, rfl⟩
  have c9 : w9.cell? ⟨w.heap.size + 1 + 1, 5, none⟩ = some (.int .i64 0) := by simp [World.cell?, hx9, recCells]
  have f9 := thawed hx9 5
  obtain ⟨x9, k9, hU9⟩ := set_to (X := w.heap.size + 1 + 1) hV9 (.int .i64 n6) 5 hx9
  rw [e9] at x9 k9 hU9
  have XC9 := Lib.hid (show v9.heap[w.heap.size + 1 + 1]? = some (.cells (recCells ⟨n1, n2, n3, n4, n5, n6⟩ (.slice none 0 0) (.slice none 0 0)) 25 (0, 0)) from x9)
  have E9 := Lib.hid e9
  have hs9 := hU9.below.size
  have rr9 := (k9 (w.heap.size + 1) (by omega)).trans r9
  have XL := Lib.hid (rlogRef_any (by omega) hp6.2.1 rr9)
  clear e9 x9 k9 r9 rr9 hx9
  go_wp2_with fail
  rw [E9.out]
  refine XL.out.mono ?_
  rintro e w10 ⟨v7, rfl, o7, r10, hW10⟩
  have hx10 := (hW10.other (w.heap.size + 1 + 1) (by omega) (by omega) (by omega)).trans XC9.out
  have hV10 : Wrote (w.heap.size + 1) (w.heap.size + 1 + 1) w3 w10 := hU9.trans hW10.both
  clear c9 f9 hV9 hU9 hW9 XC9 E9
  have hs9' := hW10.below.size
  obtain ⟨a7, cap7, rfl, -⟩ := ents_owned (B' := 0) o7
  have hpe := rdEntL_pos (s := s.data.toList) p6.2.1 p6.2.2 (by rw [bytes_len]; exact hp6.2.1)
  rw [bytes_len] at hpe
  have hle := rdEntL_len (s := s.data.toList) p6.2.1 p6.2.2 (by rw [bytes_len]; exact hp6.2.1)
  have hlf := rdSptL_len (s := s.data.toList) (rdEntL s.data.toList p6.2.1 p6.2.2).2.1 (rdEntL s.data.toList p6.2.1 p6.2.2).2.2 (by rw [bytes_len]; exact hpe)
  rw [bytes_len] at hle hlf
  have HEO := Lib.hid (show EntsOk (rdEntL s.data.toList p6.2.1 p6.2.2).1 from rdEnts_ok _ _ _ _)
  have HSO := Lib.hid (show SptsOk (rdSptL s.data.toList (rdEntL s.data.toList p6.2.1 p6.2.2).2.1 (rdEntL s.data.toList p6.2.1 p6.2.2).2.2).1 from rdSpts_ok _ _ _ _)
  have hE0 : rdSptL s.data.toList (rdEntL s.data.toList p6.2.1 p6.2.2).2.1 (rdEntL s.data.toList p6.2.1 p6.2.2).2.2 = rdSpts s.data.toList ((rdL s.data.toList 1 (rdEntL s.data.toList p6.2.1 p6.2.2).2.1 (rdEntL s.data.toList p6.2.1 p6.2.2).2.2).1.getD 0 0).toNat (rdL s.data.toList 1 (rdEntL s.data.toList p6.2.1 p6.2.2).2.1 (rdEntL s.data.toList p6.2.1 p6.2.2).2.2).2.1 (rdL s.data.toList 1 (rdEntL s.data.toList p6.2.1 p6.2.2).2.1 (rdEntL s.data.toList p6.2.1 p6.2.2).2.2).2.2 := rfl
  generalize rdSptL s.data.toList (rdEntL s.data.toList p6.2.1 p6.2.2).2.1 (rdEntL s.data.toList p6.2.1 p6.2.2).2.2 = E at *
  generalize rdEntL s.data.toList p6.2.1 p6.2.2 = q at *
  have O7 := Lib.hid o7
  have HE0 := Lib.hid hE0
  have HSL := Lib.hid (show E.1.length ≤ 1000000 by omega)
  have HEL := Lib.hid (show q.1.length ≤ 900001 by omega)
  clear o7 hE0 hlf hle
  obtain ⟨v10, e10⟩ : ∃ v, w10.setCell ⟨w.heap.size + 1 + 1, 6, none⟩ (.slice a7 q.1.length cap7) = v := ⟨_, rfl⟩
  have c10 : w10.cell? ⟨w.heap.size + 1 + 1, 6, none⟩ = some (.slice none 0 0) := by simp [World.cell?, hx10, recCells]
  have f10 := thawed hx10 6
  obtain ⟨x10, k10, hU10⟩ := set_to (X := w.heap.size + 1 + 1) hV10 (.slice a7 q.1.length cap7) 6 hx10
  obtain ⟨-, -, hU10'⟩ := set_to (R := w.heap.size + 1) (X := w.heap.size + 1 + 1) (Wrote.refl _ _ w10) (.slice a7 q.1.length cap7) 6 hx10
  rw [e10] at x10 k10 hU10 hU10'
  have XC10 := Lib.hid (show v10.heap[w.heap.size + 1 + 1]? = some (.cells (recCells ⟨n1, n2, n3, n4, n5, n6⟩ (.slice a7 q.1.length cap7) (.slice none 0 0)) 25 (0, 0)) from x10)
  have E10 := Lib.hid e10
  have hs10 := hU10.below.size
  have rr10 := (k10 (w.heap.size + 1) (by omega)).trans r10
  have hs10' := hU10'.below.size
  have hpN := rdL_pos (s := s.data.toList) 1 q.2.1 q.2.2 (by rw [bytes_len]; exact hpe)
  rw [bytes_len] at hpN
  obtain ⟨-, hpN, -⟩ := hpN
  have hNN := getD_i64 (rdL_i64 1 q.2.1 q.2.2 : ∀ n ∈ (rdL s.data.toList 1 q.2.1 q.2.2).1, _) 0
  have XI := rInt_any hsm rr10
  unfold IntOut at XI
  generalize (rdL s.data.toList 1 q.2.1 q.2.2).1.getD 0 0 = N at *
  generalize (rdL s.data.toList 1 q.2.1 q.2.2).2 = p at *
  have XI := Lib.hid XI
  clear e10 x10 k10 r10 rr10 hx10
  go_wp2_with fail
  rw [E10.out]
  refine XI.out.mono ?_
  rintro e w8 ⟨rfl, r8, hW8⟩
  have hx8 := (hW8.other (w.heap.size + 1 + 1) (by omega) (by omega) (by omega)).trans XC10.out
  have hV8 : Wrote (w.heap.size + 1) (w.heap.size + 1 + 1) w3 w8 := hU10.trans hW8.both
  have hW8s := hV8.below.size
  rw [s3] at hW8s
  have B8 := b3.trans (hV8.toBelow (by omega) (by omega) (by omega))
  have D8 := Lib.hid ((hV8.other w.heap.size (by omega) (by omega) (by omega)).trans D3.out)
  have O8 := Lib.hid (owns_le (B' := w.heap.size + 3) (owns_wrote2 (owns_wrote2 O7.out hU10' (by omega) (by omega)) (hW8.both (T := w.heap.size + 1 + 1)) (by omega) (by omega)) (by omega))
  have HX8 := Lib.hid hx8
  have R8 := Lib.hid r8
  obtain ⟨n, hn⟩ : ∃ n : RNum, (⟨n1, n2, n3, n4, n5, n6⟩ : RNum) = n := ⟨_, rfl⟩
  rw [hn] at HX8 HNO HD0
  obtain ⟨es, hes⟩ : ∃ es, q.1 = es := ⟨_, rfl⟩
  rw [hes] at HX8 O8 HEO HEL HD0
  have HD := HD0
  obtain ⟨i0, hi, hz0, hz1, hz2⟩ := info_parts info_spt
  have HI := Lib.hid (And.intro hi (And.intro hz0 (And.intro hz1 hz2)))
  have hW8x : w.heap.size + 3 ≤ w8.heap.size := hW8s
  clear hx8 r8 hW8 hU10 hU10' E10 XC10 hV10 hn hes XX3 D3 E3 hi hz0 hz1 hz2 c10 f10 hpe
  go_wp2_with fail
  go_loopw [7] (fun pp wr => ∃ (fs : List Spt) (v : Value) (k a' : Nat) (b' : Bool), pp = .int .i64 k ∧ wr.heap[w.heap.size + 1]? = some (.cells (rdCells s a' b') 66 (0, 0)) ∧ wr.heap[w.heap.size + 1 + 1]? = some (.cells (recCells n (.slice a7 es.length cap7) v) 25 (0, 0)) ∧
    wr.ownsRow w8.heap.size 32 2 v fs.length (sptVals fs) ∧ Wrote (w.heap.size + 1) (w.heap.size + 1 + 1) w8 wr ∧ a' ≤ s.size ∧ (b' = false → k ≤ a') ∧ k ≤ a' + 1 ∧ fs.length = k ∧ (k : Int) ≤ max N 0 ∧
    E = (fs ++ (rdSpts s.data.toList (N - k).toNat a' b').1, (rdSpts s.data.toList (N - k).toNat a' b').2)) (fun pp _ => (N - intOf pp).toNat)
  case atStart =>
    exact ⟨[], .slice none 0 0, 0, p.1, p.2, rfl, R8.out, HX8.out, ⟨rfl, .inl ⟨rfl, rfl⟩⟩, Wrote.refl _ _ _, hpN, by simp, by simp, rfl, by simp; omega, by rw [HE0.out]; simp⟩
  case round =>
    obtain ⟨fs, v, k, a', b', rfl, hR, hXr, hown, hWr, ha', hc1, hc2, rfl, hkN, hE⟩ := hrel
    obtain ⟨va, vc, rfl⟩ := owns_slice hown
    obtain ⟨c0, c1, c2⟩ := rd_cells hR
    have HEE := Lib.hid hE
    have HR := Lib.hid hR
    have HO := Lib.hid hown
    have HKN := Lib.hid hkN
    have hWs := hWr.below.size
    clear hE hR hown hkN
    by_cases hn0 : (fs.length : Int) < N
    · have d1 : decide ((fs.length : Int) < N) = true := decide_eq_true hn0
      cases b' with
      | true =>
        have HE := Lib.hid (show E = (fs, (a', true)) by rw [HEE.out, rdSpts_bad, List.append_nil])
        have hsr := hWr.below.size
        have OE := Lib.hid (owns_wrote2 O8.out hWr (by omega) (by omega))
        have BR := B8.trans (hWr.toBelow (by omega) (by omega) (by omega))
        have DR := Lib.hid ((hWr.other w.heap.size (by omega) (by omega) (by omega)).trans D8.out)
        have HXR := Lib.hid hXr
        obtain ⟨x0, x1, x2, x3, x4, x5, x6, x7⟩ := rec_cells hXr
        have HEN := ents_owned (B' := w.heap.size) OE.out
        have HFN := spts_owned (B' := w.heap.size) HO.out
        clear hXr
        have HFO := Lib.hid (show SptsOk fs by have h := HSO.out; rw [HE.out] at h; exact h)
        have HDD := Lib.hid (show decR s.data.toList = if true = false ∧ mayR n es fs = true ∧ encR n es fs = s.data.toList then some (n, es, fs) else none by rw [HD.out, HE.out])
        by_cases hm : mayR n es fs = true
        · have HM := Lib.hid (refEncR_yes HEN HFN HNO.out HEO.out HFO.out hm)
          clear HEN HFN
          go_wp2_with fail
          refine HM.out.mono ?_
          rintro e w11 ⟨rfl, b11⟩
          have r11 := (b11.block (w.heap.size + 1) (by omega)).trans HR.out
          have t11 := (b11.block (w.heap.size + 1 + 1) (by omega)).trans HXR.out
          have d11 := (b11.block w.heap.size (by omega)).trans DR.out
          obtain ⟨c0, c1, c2⟩ := rd_cells r11
          clear x0 x1 x2 x3 x4 x5 x6 x7
          have T11 := Lib.hid t11
          have D11 := Lib.hid d11
          have B11 := BR.trans (b11.mono BR.size)
          clear r11 t11 d11
          go_wp2_with (refine wpList_store_row rfl _ _ _ rfl w.heap.size noRec rfl rfl _ _ D11.out (by kernel_rfl) rfl (by simp [noRec, recCells, noNum, Value.oneCell']) ?_)
          (try simp only [Exit.inBlock, Exit.then])
          obtain ⟨k0, k1, k2, k3, k4, k5, k6, k7⟩ := rec_cells (setRow_heap w11 w.heap.size _ noRec _ _ D11.out)
          refine bodyPost_ret (by simp [results, Try.results17, go_sem, k0, k1, k2, k3, k4, k5, k6, k7]; rfl) rfl ⟨below_setRow B11 (Nat.le_refl _) _, fun _ => rfl, fun x hx => ?_⟩
          rw [HDD.out] at hx
          simp  at hx
        · have hm' : mayR n es fs = false := by simpa using hm
          have hfl : fs.length ≤ 1000000 := by have h := HSL.out; rw [HE.out] at h; exact h
          have HM := Lib.hid (refEncR_no HEN HFN (by have := HEL.out; omega) hfl hm')
          clear HEN HFN
          go_wp2_with fail
          refine HM.out.mono ?_
          rintro e w11 ⟨rfl, b11⟩
          have r11 := (b11.block (w.heap.size + 1) (by omega)).trans HR.out
          have d11 := (b11.block w.heap.size (by omega)).trans DR.out
          obtain ⟨c0, c1, c2⟩ := rd_cells r11
          clear x0 x1 x2 x3 x4 x5 x6 x7
          have D11 := Lib.hid d11
          have B11 := BR.trans (b11.mono BR.size)
          clear r11 d11
          go_wp2_with (refine wpList_store_row rfl _ _ _ rfl w.heap.size noRec rfl rfl _ _ D11.out (by kernel_rfl) rfl (by simp [noRec, recCells, noNum, Value.oneCell']) ?_)
          (try simp only [Exit.inBlock, Exit.then])
          obtain ⟨k0, k1, k2, k3, k4, k5, k6, k7⟩ := rec_cells (setRow_heap w11 w.heap.size _ noRec _ _ D11.out)
          refine bodyPost_ret (by simp [results, Try.results17, go_sem, k0, k1, k2, k3, k4, k5, k6, k7]; rfl) rfl ⟨below_setRow B11 (Nat.le_refl _) _, fun _ => rfl, fun x hx => ?_⟩
          rw [HDD.out] at hx
          simp  at hx
      | false =>
        have hk1 := hc1 rfl
        have HXR := Lib.hid hXr
        have XA := rInt_any hsm HR.out
        have hpos := rdSpt_pos (s := s.data.toList) (a := a') (b := false) (by rw [bytes_len]; exact ha')
        rw [bytes_len] at hpos
        obtain ⟨g1, g2, g3⟩ := hpos
        have HE2 := Lib.hid (show E = (fs ++ [(rdSpt s.data.toList a' false).1] ++ (rdSpts s.data.toList (N - (fs.length + 1 : Nat)).toNat (rdSpt s.data.toList a' false).2.1 (rdSpt s.data.toList a' false).2.2).1, (rdSpts s.data.toList (N - (fs.length + 1 : Nat)).toNat (rdSpt s.data.toList a' false).2.1 (rdSpt s.data.toList a' false).2.2).2) by
          rw [HEE.out, show (N - fs.length).toNat = (N - (fs.length + 1 : Nat)).toNat + 1 by omega, rdSpts_good]; simp)
        obtain ⟨y1, z1⟩ : ∃ y, rdL s.data.toList 1 a' false = y := ⟨_, rfl⟩
        obtain ⟨y2, z2⟩ : ∃ y, rdL s.data.toList 1 y1.2.1 y1.2.2 = y := ⟨_, rfl⟩
        rw [rd2 z1 z2] at HE2 g1 g2 g3
        rw [z1] at XA
        unfold IntOut at XA
        have Z2 := Lib.hid z2
        generalize y1.1.getD 0 0 = m1 at *
        generalize hm2 : y2.1.getD 0 0 = m2 at *
        have M2 := Lib.hid hm2
        have XA := Lib.hid XA
        clear hc1 z1 z2 hm2 hXr
        go_wp2_with fail
        refine XA.out.mono ?_
        rintro e wa ⟨rfl, ra, hWa⟩
        have XB := rInt_any hsm ra
        rw [Z2.out] at XB
        unfold IntOut at XB
        rw [M2.out] at XB
        have XB := Lib.hid XB
        clear ra c0 c1 c2
        go_wp2_with fail
        refine XB.out.mono ?_
        rintro e wb ⟨rfl, rb, hWb⟩
        have hsa := hWa.below.size
        have hsb := hWb.below.size
        have hWab : Wrote (w.heap.size + 1) (w.heap.size + 1 + 1) wr wb := (hWa.trans hWb).both
        have hxb := ((hWa.trans hWb).other (w.heap.size + 1 + 1) (by omega) (by omega) (by omega)).trans HXR.out
        have hownb := owns_wrote2 HO.out hWab (by omega) (by omega)
        have hWrb := hWr.trans hWab
        have RB := Lib.hid rb
        have XB' := Lib.hid hxb
        have cb : wb.cell? ⟨w.heap.size + 1 + 1, 7, none⟩ = some (.slice va fs.length vc) := by simp [World.cell?, hxb, recCells]
        have hfl : fs.length ≤ 1000000 := by omega
        clear rb hxb
        go_wp2_with (at_builtin; refine wpList_append_own _ rfl _ _ 23 rfl w8.heap.size 32 i0 (.agg (sptCells noSpt)) 2 16 Try.underlying23 HI.out.1 HI.out.2.1 HI.out.2.2.1 HI.out.2.2.2 rfl (by decide) _ _ _ rfl (hownb.alloc _) ⟨wb.heap.size, 0, none⟩ 1 1 (sptCells ⟨m1, m2⟩).toList rfl rfl (spt_at _ ⟨m1, m2⟩ _) (spt_one _) (by unfold maxLen; omega) (by omega) (by simp; omega) ?_)
        intro v' wc hownc hgr _
        obtain ⟨av', cv', rfl⟩ := owns_slice hownc
        have hownA := hownb.alloc (.cells (sptCells ⟨m1, m2⟩) 32)
        have hlc := fun (j : Nat) (h1 : j < wb.heap.size) (h2 : j < w8.heap.size) => (grown_low hownA hgr (k := j) (by simp; omega) h2).trans (((Below.refl _ _).alloc (Nat.le_refl _) _ : Below wb.heap.size wb (wb.alloc (.cells (sptCells ⟨m1, m2⟩) 32))).block j h1)
        have hxc := (hlc (w.heap.size + 1 + 1) (by omega) (by omega)).trans XB'.out
        have rc := (hlc (w.heap.size + 1) (by omega) (by omega)).trans RB.out
        have hWc := wrote_grown2 (hWrb.trans ((Wrote.of_alloc _ _ : Wrote (w.heap.size + 1) (w.heap.size + 1) wb (wb.alloc (.cells (sptCells ⟨m1, m2⟩) 32))).both)) hownA hgr (Nat.le_refl _)
        have hsc := hWc.below.size
        have cc : wc.cell? ⟨w.heap.size + 1 + 1, 7, none⟩ = some (.slice va fs.length vc) := by simp [World.cell?, hxc, recCells]
        have fc := thawed hxc 7
        obtain ⟨xd, kd, hWd⟩ := set_to hWc (.slice av' (fs.length + 1) cv') 7 hxc
        obtain ⟨-, -, hWd'⟩ := set_to (R := w.heap.size + 1) (X := w.heap.size + 1 + 1) (Wrote.refl _ _ wc) (.slice av' (fs.length + 1) cv') 7 hxc
        have XD := Lib.hid xd
        have RD := Lib.hid ((kd (w.heap.size + 1) (by omega)).trans rc)
        have OD := Lib.hid (owns_wrote2 hownc hWd' (by omega) (by omega))
        have WD := Lib.hid hWd
        clear xd kd hWd hWd' rc hxc hownc hgr hlc hownA hownb cb
        go_wp2
        go_roundw
        case rel =>
          refine ⟨fs ++ [⟨m1, m2⟩], .slice av' (fs.length + 1) cv', fs.length + 1, y2.2.1, y2.2.2, by go_num, RD.out, XD.out, ?_, WD.out, g2, ?_, ?_, by simp, ?_, HE2.out⟩
          · rw [sptVals_more, List.length_append, List.length_singleton]; exact OD.out
          · intro h; have := g3 h; omega
          · omega
          · have := HKN.out; omega
        case measure => simp [intOf]; omega
    · have d1 : decide ((fs.length : Int) < N) = false := decide_eq_false hn0
      have hz : (N - fs.length).toNat = 0 := by omega
      have HE' := Lib.hid (show E = (fs, (a', b')) by rw [HEE.out, hz]; simp [rdSpts])
      clear hc1 hz
      cases b' with
      | true =>
        have HE := HE'
        have hsr := hWr.below.size
        have OE := Lib.hid (owns_wrote2 O8.out hWr (by omega) (by omega))
        have BR := B8.trans (hWr.toBelow (by omega) (by omega) (by omega))
        have DR := Lib.hid ((hWr.other w.heap.size (by omega) (by omega) (by omega)).trans D8.out)
        have HXR := Lib.hid hXr
        obtain ⟨x0, x1, x2, x3, x4, x5, x6, x7⟩ := rec_cells hXr
        have HEN := ents_owned (B' := w.heap.size) OE.out
        have HFN := spts_owned (B' := w.heap.size) HO.out
        clear hXr
        have HFO := Lib.hid (show SptsOk fs by have h := HSO.out; rw [HE.out] at h; exact h)
        have HDD := Lib.hid (show decR s.data.toList = if true = false ∧ mayR n es fs = true ∧ encR n es fs = s.data.toList then some (n, es, fs) else none by rw [HD.out, HE.out])
        by_cases hm : mayR n es fs = true
        · have HM := Lib.hid (refEncR_yes HEN HFN HNO.out HEO.out HFO.out hm)
          clear HEN HFN
          go_wp2_with fail
          refine HM.out.mono ?_
          rintro e w11 ⟨rfl, b11⟩
          have r11 := (b11.block (w.heap.size + 1) (by omega)).trans HR.out
          have t11 := (b11.block (w.heap.size + 1 + 1) (by omega)).trans HXR.out
          have d11 := (b11.block w.heap.size (by omega)).trans DR.out
          obtain ⟨c0, c1, c2⟩ := rd_cells r11
          clear x0 x1 x2 x3 x4 x5 x6 x7
          have T11 := Lib.hid t11
          have D11 := Lib.hid d11
          have B11 := BR.trans (b11.mono BR.size)
          clear r11 t11 d11
          go_wp2_with (refine wpList_store_row rfl _ _ _ rfl w.heap.size noRec rfl rfl _ _ D11.out (by kernel_rfl) rfl (by simp [noRec, recCells, noNum, Value.oneCell']) ?_)
          (try simp only [Exit.inBlock, Exit.then])
          obtain ⟨k0, k1, k2, k3, k4, k5, k6, k7⟩ := rec_cells (setRow_heap w11 w.heap.size _ noRec _ _ D11.out)
          refine bodyPost_ret (by simp [results, Try.results17, go_sem, k0, k1, k2, k3, k4, k5, k6, k7]; rfl) rfl ⟨below_setRow B11 (Nat.le_refl _) _, fun _ => rfl, fun x hx => ?_⟩
          rw [HDD.out] at hx
          simp  at hx
        · have hm' : mayR n es fs = false := by simpa using hm
          have hfl : fs.length ≤ 1000000 := by have h := HSL.out; rw [HE.out] at h; exact h
          have HM := Lib.hid (refEncR_no HEN HFN (by have := HEL.out; omega) hfl hm')
          clear HEN HFN
          go_wp2_with fail
          refine HM.out.mono ?_
          rintro e w11 ⟨rfl, b11⟩
          have r11 := (b11.block (w.heap.size + 1) (by omega)).trans HR.out
          have d11 := (b11.block w.heap.size (by omega)).trans DR.out
          obtain ⟨c0, c1, c2⟩ := rd_cells r11
          clear x0 x1 x2 x3 x4 x5 x6 x7
          have D11 := Lib.hid d11
          have B11 := BR.trans (b11.mono BR.size)
          clear r11 d11
          go_wp2_with (refine wpList_store_row rfl _ _ _ rfl w.heap.size noRec rfl rfl _ _ D11.out (by kernel_rfl) rfl (by simp [noRec, recCells, noNum, Value.oneCell']) ?_)
          (try simp only [Exit.inBlock, Exit.then])
          obtain ⟨k0, k1, k2, k3, k4, k5, k6, k7⟩ := rec_cells (setRow_heap w11 w.heap.size _ noRec _ _ D11.out)
          refine bodyPost_ret (by simp [results, Try.results17, go_sem, k0, k1, k2, k3, k4, k5, k6, k7]; rfl) rfl ⟨below_setRow B11 (Nat.le_refl _) _, fun _ => rfl, fun x hx => ?_⟩
          rw [HDD.out] at hx
          simp  at hx
      | false =>
        have HE := HE'
        have hsr := hWr.below.size
        have OE := Lib.hid (owns_wrote2 O8.out hWr (by omega) (by omega))
        have BR := B8.trans (hWr.toBelow (by omega) (by omega) (by omega))
        have DR := Lib.hid ((hWr.other w.heap.size (by omega) (by omega) (by omega)).trans D8.out)
        have HXR := Lib.hid hXr
        obtain ⟨x0, x1, x2, x3, x4, x5, x6, x7⟩ := rec_cells hXr
        have HEN := ents_owned (B' := w.heap.size) OE.out
        have HFN := spts_owned (B' := w.heap.size) HO.out
        clear hXr
        have HFO := Lib.hid (show SptsOk fs by have h := HSO.out; rw [HE.out] at h; exact h)
        have HDD := Lib.hid (show decR s.data.toList = if false = false ∧ mayR n es fs = true ∧ encR n es fs = s.data.toList then some (n, es, fs) else none by rw [HD.out, HE.out])
        by_cases hm : mayR n es fs = true
        · have HM := Lib.hid (refEncR_yes HEN HFN HNO.out HEO.out HFO.out hm)
          clear HEN HFN
          go_wp2_with fail
          refine HM.out.mono ?_
          rintro e w11 ⟨rfl, b11⟩
          have r11 := (b11.block (w.heap.size + 1) (by omega)).trans HR.out
          have t11 := (b11.block (w.heap.size + 1 + 1) (by omega)).trans HXR.out
          have d11 := (b11.block w.heap.size (by omega)).trans DR.out
          obtain ⟨c0, c1, c2⟩ := rd_cells r11
          clear x0 x1 x2 x3 x4 x5 x6 x7
          have T11 := Lib.hid t11
          have D11 := Lib.hid d11
          have B11 := BR.trans (b11.mono BR.size)
          clear r11 t11 d11
          by_cases hq : encR n es fs = s.data.toList
          · have d1 : (!((str (encR n es fs)).toList == s.toList)) = false := by rw [hq]; simp [str]
            obtain ⟨x0, x1, x2, x3, x4, x5, x6, x7⟩ := rec_cells (n := n) T11.out
            have hq' := Lib.hid hq
            clear hq
            go_wp2_with (refine wpList_store_row rfl _ _ _ rfl w.heap.size (recCells n (.slice a7 es.length cap7) (.slice va fs.length vc)) rfl rfl _ _ D11.out (by kernel_rfl) rfl (by simp [recCells, Value.oneCell']) ?_)
            (try simp only [Exit.inBlock, Exit.then])
            obtain ⟨k0, k1, k2, k3, k4, k5, k6, k7⟩ := rec_cells (setRow_heap w11 w.heap.size _ (recCells n (.slice a7 es.length cap7) (.slice va fs.length vc)) _ _ D11.out)
            refine bodyPost_ret (by simp [results, Try.results17, go_sem, k0, k1, k2, k3, k4, k5, k6, k7]; rfl) rfl ⟨below_setRow B11 (Nat.le_refl _) _, fun hx => ?_, fun x hx => ?_⟩
            · rw [HDD.out, if_pos ⟨trivial, hm, hq'.out⟩] at hx
              cases hx
            · rw [HDD.out, if_pos ⟨trivial, hm, hq'.out⟩] at hx
              cases hx
              exact ⟨_, _, _, _, rfl, row_row (owns_below (owns_le OE.out (by omega)) b11) D11.out (by decide), row_row (owns_below (owns_le HO.out (by omega)) b11) D11.out (by decide)⟩
          · have d1 : (!((str (encR n es fs)).toList == s.toList)) = true := by
              have h : (str (encR n es fs)).toList ≠ s.toList := fun h => hq (by simpa [str, ByteArray.toList_eq] using h)
              simpa using h
            have hq' := Lib.hid hq
            clear hq
            go_wp2_with (refine wpList_store_row rfl _ _ _ rfl w.heap.size noRec rfl rfl _ _ D11.out (by kernel_rfl) rfl (by simp [noRec, recCells, noNum, Value.oneCell']) ?_)
            (try simp only [Exit.inBlock, Exit.then])
            obtain ⟨k0, k1, k2, k3, k4, k5, k6, k7⟩ := rec_cells (setRow_heap w11 w.heap.size _ noRec _ _ D11.out)
            refine bodyPost_ret (by simp [results, Try.results17, go_sem, k0, k1, k2, k3, k4, k5, k6, k7]; rfl) rfl ⟨below_setRow B11 (Nat.le_refl _) _, fun _ => rfl, fun x hx => ?_⟩
            rw [HDD.out] at hx
            simp [hq'.out] at hx
        · have hm' : mayR n es fs = false := by simpa using hm
          have hfl : fs.length ≤ 1000000 := by have h := HSL.out; rw [HE.out] at h; exact h
          have HM := Lib.hid (refEncR_no HEN HFN (by have := HEL.out; omega) hfl hm')
          clear HEN HFN
          go_wp2_with fail
          refine HM.out.mono ?_
          rintro e w11 ⟨rfl, b11⟩
          have r11 := (b11.block (w.heap.size + 1) (by omega)).trans HR.out
          have d11 := (b11.block w.heap.size (by omega)).trans DR.out
          obtain ⟨c0, c1, c2⟩ := rd_cells r11
          clear x0 x1 x2 x3 x4 x5 x6 x7
          have D11 := Lib.hid d11
          have B11 := BR.trans (b11.mono BR.size)
          clear r11 d11
          go_wp2_with (refine wpList_store_row rfl _ _ _ rfl w.heap.size noRec rfl rfl _ _ D11.out (by kernel_rfl) rfl (by simp [noRec, recCells, noNum, Value.oneCell']) ?_)
          (try simp only [Exit.inBlock, Exit.then])
          obtain ⟨k0, k1, k2, k3, k4, k5, k6, k7⟩ := rec_cells (setRow_heap w11 w.heap.size _ noRec _ _ D11.out)
          refine bodyPost_ret (by simp [results, Try.results17, go_sem, k0, k1, k2, k3, k4, k5, k6, k7]; rfl) rfl ⟨below_setRow B11 (Nat.le_refl _) _, fun _ => rfl, fun x hx => ?_⟩
          rw [HDD.out] at hx
          simp [hm'] at hx
end Go.Proofs.Ytalilifegclelaa
