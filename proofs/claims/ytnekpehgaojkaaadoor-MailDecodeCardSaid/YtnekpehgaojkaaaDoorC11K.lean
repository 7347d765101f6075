/- The reference's Decode (layer 11). (Printed by wip/src/XC11K.py.) -/
import Derived.Test.YtnekpehgaojkaaaDoorC11F
import Derived.Test.YtnekpehgaojkaaaDoorC11G
import Derived.Test.YtnekpehgaojkaaaDoorC11p
namespace Go.Proofs.YtnekpehgaojkaaaDoor
open Go.RowKit

theorem Wrote.both {R T : Nat} {w w' : World} (h : Wrote R R w w') : Wrote R T w w' := ⟨h.below, fun k hk h1 _ => h.other k hk h1 h1⟩
theorem set_to {R X : Nat} {w0 w : World} (h : Wrote R X w0 w) (v : Value) (o : Nat) {cs : Array Value} {t : TypeId} (hX : w.heap[X]? = some (.cells cs t (0, 0))) :
    (w.setCell ⟨X, o, none⟩ v).heap[X]? = some (.cells (cs.setIfInBounds o v) t (0, 0)) ∧ (∀ k, k ≠ X → (w.setCell ⟨X, o, none⟩ v).heap[k]? = w.heap[k]?) ∧ Wrote R X w0 (w.setCell ⟨X, o, none⟩ v) := by
  rw [setCell_eq_setRow _ X o _ t _ _ hX]
  exact ⟨setRow_heap _ _ _ _ _ _ hX, fun k hk => setRow_other _ _ _ _ hk, h.row (.inr rfl) _⟩
theorem put_kind (m : MNum) (x : Int) (ve : Value) : (mailCells m ve).setIfInBounds 0 (.int .i64 x) = mailCells { m with kind := x } ve := by simp [mailCells]
theorem put_frm (m : MNum) (x : Int) (ve : Value) : (mailCells m ve).setIfInBounds 1 (.int .i64 x) = mailCells { m with frm := x } ve := by simp [mailCells]
theorem put_dst (m : MNum) (x : Int) (ve : Value) : (mailCells m ve).setIfInBounds 2 (.int .i64 x) = mailCells { m with dst := x } ve := by simp [mailCells]
theorem put_stream (m : MNum) (x : Int) (ve : Value) : (mailCells m ve).setIfInBounds 3 (.int .i64 x) = mailCells { m with stream := x } ve := by simp [mailCells]
theorem put_epoch (m : MNum) (x : Int) (ve : Value) : (mailCells m ve).setIfInBounds 4 (.int .i64 x) = mailCells { m with epoch := x } ve := by simp [mailCells]
theorem put_view (m : MNum) (x : Int) (ve : Value) : (mailCells m ve).setIfInBounds 5 (.int .i64 x) = mailCells { m with view := x } ve := by simp [mailCells]
theorem put_base (m : MNum) (x : Int) (ve : Value) : (mailCells m ve).setIfInBounds 6 (.int .i64 x) = mailCells { m with base := x } ve := by simp [mailCells]
theorem put_length (m : MNum) (x : Int) (ve : Value) : (mailCells m ve).setIfInBounds 7 (.int .i64 x) = mailCells { m with length := x } ve := by simp [mailCells]
theorem put_stamp (m : MNum) (x : Int) (ve : Value) : (mailCells m ve).setIfInBounds 8 (.int .i64 x) = mailCells { m with stamp := x } ve := by simp [mailCells]
theorem put_id (m : MNum) (x : Int) (ve : Value) : (mailCells m ve).setIfInBounds 15 (.int .i64 x) = mailCells { m with ans := { m.ans with id := x } } ve := by simp [mailCells]
theorem put_code (m : MNum) (x : Int) (ve : Value) : (mailCells m ve).setIfInBounds 16 (.int .i64 x) = mailCells { m with ans := { m.ans with code := x } } ve := by simp [mailCells]
theorem put_ver (m : MNum) (x : Int) (ve : Value) : (mailCells m ve).setIfInBounds 17 (.int .i64 x) = mailCells { m with ans := { m.ans with ver := x } } ve := by simp [mailCells]
theorem rd9 {s : List UInt8} {a : Nat} {b : Bool} {p1 p2 p3 p4 p5 p6 p7 p8 p9 : List Int × Nat × Bool} (h1 : rdL s 1 a b = p1) (h2 : rdL s 1 p1.2.1 p1.2.2 = p2) (h3 : rdL s 1 p2.2.1 p2.2.2 = p3) (h4 : rdL s 1 p3.2.1 p3.2.2 = p4) (h5 : rdL s 1 p4.2.1 p4.2.2 = p5) (h6 : rdL s 1 p5.2.1 p5.2.2 = p6) (h7 : rdL s 1 p6.2.1 p6.2.2 = p7) (h8 : rdL s 1 p7.2.1 p7.2.2 = p8) (h9 : rdL s 1 p8.2.1 p8.2.2 = p9) :
    (rdL s 9 a b).1.getD 0 0 = p1.1.getD 0 0 ∧ (rdL s 9 a b).1.getD 1 0 = p2.1.getD 0 0 ∧ (rdL s 9 a b).1.getD 2 0 = p3.1.getD 0 0 ∧ (rdL s 9 a b).1.getD 3 0 = p4.1.getD 0 0 ∧ (rdL s 9 a b).1.getD 4 0 = p5.1.getD 0 0 ∧ (rdL s 9 a b).1.getD 5 0 = p6.1.getD 0 0 ∧ (rdL s 9 a b).1.getD 6 0 = p7.1.getD 0 0 ∧ (rdL s 9 a b).1.getD 7 0 = p8.1.getD 0 0 ∧ (rdL s 9 a b).1.getD 8 0 = p9.1.getD 0 0 ∧ (rdL s 9 a b).2 = p9.2 := by
  obtain ⟨a0, b0, c0⟩ := rdL_split s 8 a b
  rw [h1] at a0 b0 c0
  obtain ⟨a1, b1, c1⟩ := rdL_split s 7 p1.2.1 p1.2.2
  rw [h2] at a1 b1 c1
  obtain ⟨a2, b2, c2⟩ := rdL_split s 6 p2.2.1 p2.2.2
  rw [h3] at a2 b2 c2
  obtain ⟨a3, b3, c3⟩ := rdL_split s 5 p3.2.1 p3.2.2
  rw [h4] at a3 b3 c3
  obtain ⟨a4, b4, c4⟩ := rdL_split s 4 p4.2.1 p4.2.2
  rw [h5] at a4 b4 c4
  obtain ⟨a5, b5, c5⟩ := rdL_split s 3 p5.2.1 p5.2.2
  rw [h6] at a5 b5 c5
  obtain ⟨a6, b6, c6⟩ := rdL_split s 2 p6.2.1 p6.2.2
  rw [h7] at a6 b6 c6
  obtain ⟨a7, b7, c7⟩ := rdL_split s 1 p7.2.1 p7.2.2
  rw [h8] at a7 b7 c7
  rw [h9] at b7 c7
  exact ⟨by rw [a0], by rw [b0 0, a1], by rw [b0 1, b1 0, a2], by rw [b0 2, b1 1, b2 0, a3], by rw [b0 3, b1 2, b2 1, b3 0, a4], by rw [b0 4, b1 3, b2 2, b3 1, b4 0, a5], by rw [b0 5, b1 4, b2 3, b3 2, b4 1, b5 0, a6], by rw [b0 6, b1 5, b2 4, b3 3, b4 2, b5 1, b6 0, a7], by rw [b0 7, b1 6, b2 5, b3 4, b4 3, b5 2, b6 1, b7 0], by rw [c0, c1, c2, c3, c4, c5, c6, c7]⟩
theorem rd3 {s : List UInt8} {a : Nat} {b : Bool} {p1 p2 p3 : List Int × Nat × Bool} (h1 : rdL s 1 a b = p1) (h2 : rdL s 1 p1.2.1 p1.2.2 = p2) (h3 : rdL s 1 p2.2.1 p2.2.2 = p3) :
    (rdL s 3 a b).1.getD 0 0 = p1.1.getD 0 0 ∧ (rdL s 3 a b).1.getD 1 0 = p2.1.getD 0 0 ∧ (rdL s 3 a b).1.getD 2 0 = p3.1.getD 0 0 ∧ (rdL s 3 a b).2 = p3.2 := by
  obtain ⟨a0, b0, c0⟩ := rdL_split s 2 a b
  rw [h1] at a0 b0 c0
  obtain ⟨a1, b1, c1⟩ := rdL_split s 1 p1.2.1 p1.2.2
  rw [h2] at a1 b1 c1
  rw [h3] at b1 c1
  exact ⟨by rw [a0], by rw [b0 0, a1], by rw [b0 1, b1 0], by rw [c0, c1]⟩
theorem refEncM_yes {B : Nat} {w : World} {m : MNum} {n : Int} {ae : Option Addr} {ce : Nat} {es : List Ent} (he : EntsAt B w (.slice ae es.length ce) es) (hl : es.length ≤ 1000000) (hm : MNumOk m) (hoe : EntsOk es) (h : mayM m es n = true) :
    Calls Tryd.prog 10 #[.agg (mailCells m (.slice ae es.length ce)), .int .i64 n] w fun e w' => e = .returned (.tuple #[.string (str (encM m es)), .int .i64 0]) ∧ Below w.heap.size w w' := by
  have := refEncodeM_any m n he hl hm hoe
  rw [h, if_pos rfl] at this
  exact this
theorem refEncM_no {B : Nat} {w : World} {m : MNum} {n : Int} {ae : Option Addr} {ce : Nat} {es : List Ent} (he : EntsAt B w (.slice ae es.length ce) es) (hl : es.length ≤ 1000000) (hm : MNumOk m) (hoe : EntsOk es) (h : mayM m es n = false) :
    Calls Tryd.prog 10 #[.agg (mailCells m (.slice ae es.length ce)), .int .i64 n] w fun e w' => e = .returned (.tuple #[.string ⟨#[]⟩, .int .i64 2]) ∧ Below w.heap.size w w' := by
  have := refEncodeM_any m n he hl hm hoe
  rw [h, if_neg (by decide), str_nil] at this
  exact this
/-- The memory that the reference's Decode begins with. -/
theorem decRefM_world (w : World) (s : ByteArray) : ∃ w3, (((w.alloc (.cells noneM 28)).alloc (.cells (rdCells s 0 false) 65)).alloc (.cells noneM 28)) = w3 ∧ Below w.heap.size w w3 ∧ w3.heap.size = w.heap.size + 3 ∧
    w3.heap[w.heap.size]? = some (.cells noneM 28 (0, 0)) ∧ w3.heap[w.heap.size + 1]? = some (.cells (rdCells s 0 false) 65 (0, 0)) ∧ w3.heap[w.heap.size + 1 + 1]? = some (.cells noneM 28 (0, 0)) := by
  obtain ⟨w1, e1, b1, s1, h1⟩ := boxed w noneM 28
  obtain ⟨w2, e2, b2, s2, h2⟩ := boxed w1 (rdCells s 0 false) 65
  obtain ⟨w3, e3, b3, s3, h3⟩ := boxed w2 noneM 28
  rw [e1, e2, e3]
  rw [s1] at h2
  rw [s2, s1] at h3
  refine ⟨w3, rfl, b1.trans ((b2.mono b1.size).trans (b3.mono (by omega))), by omega, ?_, ?_, h3⟩
  · rw [b3.block _ (by omega), b2.block _ (by omega)]; exact h1
  · rw [b3.block _ (by omega)]; exact h2
set_option maxRecDepth 100000 in
set_option maxHeartbeats 8000000 in
theorem decRefM_any {s : ByteArray} (hs : s.size ≤ 900000) (n : Int) (w : World) :
    Calls Tryd.prog 16 #[.string s, .int .i64 n] w (DecMOut w (decM s.data.toList n)) := by
  obtain ⟨w3, e3, b3, s3, d3, r3, x3⟩ := decRefM_world w s
  have hsm : s.size ≤ maxLen := Nat.le_trans hs (by decide)
  have E3 := Lib.hid (show (((w.alloc (.cells #[.int .i64 0, .int .i64 0, .int .i64 0, .int .i64 0, .int .i64 0, .int .i64 0, .int .i64 0, .int .i64 0, .int .i64 0, .slice none 0 0, .int .i64 0, .int .i64 0, .int .i64 0, .int .i64 0, .int .i64 0, .int .i64 0, .int .i64 0, .int .i64 0] 28)).alloc (.cells #[.string s, .int .i64 0, .bool false] 65)).alloc (.cells #[.int .i64 0, .int .i64 0, .int .i64 0, .int .i64 0, .int .i64 0, .int .i64 0, .int .i64 0, .int .i64 0, .int .i64 0, .slice none 0 0, .int .i64 0, .int .i64 0, .int .i64 0, .int .i64 0, .int .i64 0, .int .i64 0, .int .i64 0, .int .i64 0] 28)) = w3 from e3)
  obtain ⟨p1, q1⟩ : ∃ p, rdL s.data.toList 1 0 false = p := ⟨_, rfl⟩
  obtain ⟨p2, q2⟩ : ∃ p, rdL s.data.toList 1 p1.2.1 p1.2.2 = p := ⟨_, rfl⟩
  obtain ⟨p3, q3⟩ : ∃ p, rdL s.data.toList 1 p2.2.1 p2.2.2 = p := ⟨_, rfl⟩
  obtain ⟨p4, q4⟩ : ∃ p, rdL s.data.toList 1 p3.2.1 p3.2.2 = p := ⟨_, rfl⟩
  obtain ⟨p5, q5⟩ : ∃ p, rdL s.data.toList 1 p4.2.1 p4.2.2 = p := ⟨_, rfl⟩
  obtain ⟨p6, q6⟩ : ∃ p, rdL s.data.toList 1 p5.2.1 p5.2.2 = p := ⟨_, rfl⟩
  obtain ⟨p7, q7⟩ : ∃ p, rdL s.data.toList 1 p6.2.1 p6.2.2 = p := ⟨_, rfl⟩
  obtain ⟨p8, q8⟩ : ∃ p, rdL s.data.toList 1 p7.2.1 p7.2.2 = p := ⟨_, rfl⟩
  obtain ⟨p9, q9⟩ : ∃ p, rdL s.data.toList 1 p8.2.1 p8.2.2 = p := ⟨_, rfl⟩
  obtain ⟨g1, g2, g3, g4, g5, g6, g7, g8, g9, g10⟩ := rd9 q1 q2 q3 q4 q5 q6 q7 q8 q9
  obtain ⟨X0, hX0⟩ : ∃ X, decM s.data.toList n = X := ⟨_, rfl⟩
  rw [hX0]
  have hp9 := rdL_pos (s := s.data.toList) 9 0 false (Nat.zero_le _)
  rw [bytes_len] at hp9
  have hN := fun a b a2 b2 => mkM_ok s.data.toList 9 0 5 a 3 a2 false b b2
  generalize hP : rdL s.data.toList 9 0 false = P at *
  have hpe := rdEntL_pos (s := s.data.toList) P.2.1 P.2.2 (by rw [bytes_len]; exact hp9.2.1)
  have hle := rdEntL_len (s := s.data.toList) P.2.1 P.2.2 (by rw [bytes_len]; exact hp9.2.1)
  have HEO := Lib.hid (show EntsOk (rdEntL s.data.toList P.2.1 P.2.2).1 from rdEnts_ok _ _ _ _)
  rw [bytes_len] at hpe hle
  have hp91 := hp9.2.1
  generalize hQ : rdEntL s.data.toList P.2.1 P.2.2 = q at *
  replace hN := fun a2 b2 => hN q.2.1 q.2.2 a2 b2
  generalize hO : rdL s.data.toList 5 q.2.1 q.2.2 = o at *
  obtain ⟨y1, z1⟩ : ∃ p, rdL s.data.toList 1 o.2.1 o.2.2 = p := ⟨_, rfl⟩
  obtain ⟨y2, z2⟩ : ∃ p, rdL s.data.toList 1 y1.2.1 y1.2.2 = p := ⟨_, rfl⟩
  obtain ⟨y3, z3⟩ : ∃ p, rdL s.data.toList 1 y2.2.1 y2.2.2 = p := ⟨_, rfl⟩
  obtain ⟨g11, g12, g13, g14⟩ := rd3 z1 z2 z3
  replace hN := hN o.2.1 o.2.2
  generalize hY : rdL s.data.toList 3 o.2.1 o.2.2 = y at *
  generalize hn1 : p1.1.getD 0 0 = n1 at *
  generalize hn2 : p2.1.getD 0 0 = n2 at *
  generalize hn3 : p3.1.getD 0 0 = n3 at *
  generalize hn4 : p4.1.getD 0 0 = n4 at *
  generalize hn5 : p5.1.getD 0 0 = n5 at *
  generalize hn6 : p6.1.getD 0 0 = n6 at *
  generalize hn7 : p7.1.getD 0 0 = n7 at *
  generalize hn8 : p8.1.getD 0 0 = n8 at *
  generalize hn9 : p9.1.getD 0 0 = n9 at *
  generalize hm1 : y1.1.getD 0 0 = m1 at *
  generalize hm2 : y2.1.getD 0 0 = m2 at *
  generalize hm3 : y3.1.getD 0 0 = m3 at *
  have N1 := Lib.hid hn1
  have N2 := Lib.hid hn2
  have N3 := Lib.hid hn3
  have N4 := Lib.hid hn4
  have N5 := Lib.hid hn5
  have N6 := Lib.hid hn6
  have N7 := Lib.hid hn7
  have N8 := Lib.hid hn8
  have N9 := Lib.hid hn9
  have M1 := Lib.hid hm1
  have M2 := Lib.hid hm2
  have M3 := Lib.hid hm3
  have HN := Lib.hid hN
  have HD := Lib.hid (hX0.symm.trans (decM_of hP hQ hO hY))
  have HM9 := Lib.hid (show (⟨n1, n2, n3, n4, n5, n6, n7, n8, n9, noOrd, ⟨0, 0, 0⟩⟩ : MNum) = mkM P.1 noOrd [] by unfold mkM; rw [g1, g2, g3, g4, g5, g6, g7, g8, g9]; rfl)
  have HM12 := Lib.hid (show ({ (mkM P.1 (rdOrd o.1) []) with ans := ⟨m1, m2, m3⟩ } : MNum) = mkM P.1 (rdOrd o.1) y.1 by unfold mkM; rw [g11, g12, g13])
  have HY2 := Lib.hid (show y.2 = y3.2 from g14)
  have HP2 := Lib.hid (show P.2 = p9.2 from g10)
  have HQQ := Lib.hid hQ
  have HOQ := Lib.hid hO
  have X1 := rInt_any hsm r3
  rw [q1] at X1
  unfold IntOut at X1
  rw [hn1] at X1
  have D3 := Lib.hid d3
  have XX3 := Lib.hid x3
  have X1 := Lib.hid X1
  have Q2 := Lib.hid q2
  have Q3 := Lib.hid q3
  have Q4 := Lib.hid q4
  have Q5 := Lib.hid q5
  have Q6 := Lib.hid q6
  have Q7 := Lib.hid q7
  have Q8 := Lib.hid q8
  have Q9 := Lib.hid q9
  have Z1 := Lib.hid z1
  have Z2 := Lib.hid z2
  have Z3 := Lib.hid z3
  clear hP hQ hO hY hN hX0 e3 d3 r3 x3 hp9 hn1 hn2 hn3 hn4 hn5 hn6 hn7 hn8 hn9 hm1 hm2 hm3 q1 q2 q3 q4 q5 q6 q7 q8 q9 z1 z2 z3 g1 g2 g3 g4 g5 g6 g7 g8 g9 g10 g11 g12 g13 g14
  go_enter Tryd.func16, Tryd.ntmps16
  go_upto_region 3 with fail
  rw [E3.out]
  go_wp2_with fail
  refine X1.out.mono ?_
  rintro e w4 ⟨rfl, r4, hW4⟩
  have hx4 : w4.heap[w.heap.size + 1 + 1]? = some (.cells (mailCells noM (.slice none 0 0)) 28 (0, 0)) := (hW4.other (w.heap.size + 1 + 1) (by omega) (by omega) (by omega)).trans XX3.out
  have hV4 : Wrote (w.heap.size + 1) (w.heap.size + 1 + 1) w3 w4 := hW4.both
  obtain ⟨v4, e4⟩ : ∃ v, w4.setCell ⟨w.heap.size + 1 + 1, 0, none⟩ (.int .i64 n1) = v := ⟨_, rfl⟩
  have c4 := msg_cell hx4 0 (.int .i64 0) rfl
  have f4 := thawed hx4 0
  obtain ⟨x4, k4, hU4⟩ := set_to (X := w.heap.size + 1 + 1) hV4 (.int .i64 n1) 0 hx4
  rw [e4] at x4 k4 hU4
  rw [put_kind] at x4
  have XC4 := Lib.hid (show v4.heap[w.heap.size + 1 + 1]? = some (.cells (mailCells ⟨n1, 0, 0, 0, 0, 0, 0, 0, 0, noOrd, ⟨0, 0, 0⟩⟩ (.slice none 0 0)) 28 (0, 0)) from x4)
  have E4 := Lib.hid e4
  have hs4 := hU4.below.size
  have rr4 := (k4 (w.heap.size + 1) (by omega)).trans r4
  have X2 := rInt_any hsm rr4
  rw [Q2.out] at X2
  unfold IntOut at X2
  rw [N2.out] at X2
  have X2 := Lib.hid X2
  clear e4 x4 k4 r4 rr4 hx4
  go_wp2_with fail
  rw [E4.out]
  refine X2.out.mono ?_
  rintro e w5 ⟨rfl, r5, hW5⟩
  have hx5 := (hW5.other (w.heap.size + 1 + 1) (by omega) (by omega) (by omega)).trans XC4.out
  have hV5 : Wrote (w.heap.size + 1) (w.heap.size + 1 + 1) w3 w5 := hU4.trans hW5.both
  clear c4 f4 hV4 hU4 hW4 XC4 E4
  obtain ⟨v5, e5⟩ : ∃ v, w5.setCell ⟨w.heap.size + 1 + 1, 1, none⟩ (.int .i64 n2) = v := ⟨_, rfl⟩
  have c5 := msg_cell hx5 1 (.int .i64 0) rfl
  have f5 := thawed hx5 1
  obtain ⟨x5, k5, hU5⟩ := set_to (X := w.heap.size + 1 + 1) hV5 (.int .i64 n2) 1 hx5
  rw [e5] at x5 k5 hU5
  rw [put_frm] at x5
  have XC5 := Lib.hid (show v5.heap[w.heap.size + 1 + 1]? = some (.cells (mailCells ⟨n1, n2, 0, 0, 0, 0, 0, 0, 0, noOrd, ⟨0, 0, 0⟩⟩ (.slice none 0 0)) 28 (0, 0)) from x5)
  have E5 := Lib.hid e5
  have hs5 := hU5.below.size
  have rr5 := (k5 (w.heap.size + 1) (by omega)).trans r5
  have X3 := rInt_any hsm rr5
  rw [Q3.out] at X3
  unfold IntOut at X3
  rw [N3.out] at X3
  have X3 := Lib.hid X3
  clear e5 x5 k5 r5 rr5 hx5
  go_wp2_with fail
  rw [E5.out]
  refine X3.out.mono ?_
  rintro e w6 ⟨rfl, r6, hW6⟩
  have hx6 := (hW6.other (w.heap.size + 1 + 1) (by omega) (by omega) (by omega)).trans XC5.out
  have hV6 : Wrote (w.heap.size + 1) (w.heap.size + 1 + 1) w3 w6 := hU5.trans hW6.both
  clear c5 f5 hV5 hU5 hW5 XC5 E5
  obtain ⟨v6, e6⟩ : ∃ v, w6.setCell ⟨w.heap.size + 1 + 1, 2, none⟩ (.int .i64 n3) = v := ⟨_, rfl⟩
  have c6 := msg_cell hx6 2 (.int .i64 0) rfl
  have f6 := thawed hx6 2
  obtain ⟨x6, k6, hU6⟩ := set_to (X := w.heap.size + 1 + 1) hV6 (.int .i64 n3) 2 hx6
  rw [e6] at x6 k6 hU6
  rw [put_dst] at x6
  have XC6 := Lib.hid (show v6.heap[w.heap.size + 1 + 1]? = some (.cells (mailCells ⟨n1, n2, n3, 0, 0, 0, 0, 0, 0, noOrd, ⟨0, 0, 0⟩⟩ (.slice none 0 0)) 28 (0, 0)) from x6)
  have E6 := Lib.hid e6
  have hs6 := hU6.below.size
  have rr6 := (k6 (w.heap.size + 1) (by omega)).trans r6
  have X4 := rInt_any hsm rr6
  rw [Q4.out] at X4
  unfold IntOut at X4
  rw [N4.out] at X4
  have X4 := Lib.hid X4
  clear e6 x6 k6 r6 rr6 hx6
  go_wp2_with fail
  rw [E6.out]
  refine X4.out.mono ?_
  rintro e w7 ⟨rfl, r7, hW7⟩
  have hx7 := (hW7.other (w.heap.size + 1 + 1) (by omega) (by omega) (by omega)).trans XC6.out
  have hV7 : Wrote (w.heap.size + 1) (w.heap.size + 1 + 1) w3 w7 := hU6.trans hW7.both
  clear c6 f6 hV6 hU6 hW6 XC6 E6
  obtain ⟨v7, e7⟩ : ∃ v, w7.setCell ⟨w.heap.size + 1 + 1, 3, none⟩ (.int .i64 n4) = v := ⟨_, rfl⟩
  have c7 := msg_cell hx7 3 (.int .i64 0) rfl
  have f7 := thawed hx7 3
  obtain ⟨x7, k7, hU7⟩ := set_to (X := w.heap.size + 1 + 1) hV7 (.int .i64 n4) 3 hx7
  rw [e7] at x7 k7 hU7
  rw [put_stream] at x7
  have XC7 := Lib.hid (show v7.heap[w.heap.size + 1 + 1]? = some (.cells (mailCells ⟨n1, n2, n3, n4, 0, 0, 0, 0, 0, noOrd, ⟨0, 0, 0⟩⟩ (.slice none 0 0)) 28 (0, 0)) from x7)
  have E7 := Lib.hid e7
  have hs7 := hU7.below.size
  have rr7 := (k7 (w.heap.size + 1) (by omega)).trans r7
  have X5 := rInt_any hsm rr7
  rw [Q5.out] at X5
  unfold IntOut at X5
  rw [N5.out] at X5
  have X5 := Lib.hid X5
  clear e7 x7 k7 r7 rr7 hx7
  go_wp2_with fail
  rw [E7.out]
  refine X5.out.mono ?_
  rintro e w8 ⟨rfl, r8, hW8⟩
  have hx8 := (hW8.other (w.heap.size + 1 + 1) (by omega) (by omega) (by omega)).trans XC7.out
  have hV8 : Wrote (w.heap.size + 1) (w.heap.size + 1 + 1) w3 w8 := hU7.trans hW8.both
  clear c7 f7 hV7 hU7 hW7 XC7 E7
  obtain ⟨v8, e8⟩ : ∃ v, w8.setCell ⟨w.heap.size + 1 + 1, 4, none⟩ (.int .i64 n5) = v := ⟨_, rfl⟩
  have c8 := msg_cell hx8 4 (.int .i64 0) rfl
  have f8 := thawed hx8 4
  obtain ⟨x8, k8, hU8⟩ := set_to (X := w.heap.size + 1 + 1) hV8 (.int .i64 n5) 4 hx8
  rw [e8] at x8 k8 hU8
  rw [put_epoch] at x8
  have XC8 := Lib.hid (show v8.heap[w.heap.size + 1 + 1]? = some (.cells (mailCells ⟨n1, n2, n3, n4, n5, 0, 0, 0, 0, noOrd, ⟨0, 0, 0⟩⟩ (.slice none 0 0)) 28 (0, 0)) from x8)
  have E8 := Lib.hid e8
  have hs8 := hU8.below.size
  have rr8 := (k8 (w.heap.size + 1) (by omega)).trans r8
  have X6 := rInt_any hsm rr8
  rw [Q6.out] at X6
  unfold IntOut at X6
  rw [N6.out] at X6
  have X6 := Lib.hid X6
  clear e8 x8 k8 r8 rr8 hx8
  go_wp2_with fail
  rw [E8.out]
  refine X6.out.mono ?_
  rintro e w9 ⟨rfl, r9, hW9⟩
  have hx9 := (hW9.other (w.heap.size + 1 + 1) (by omega) (by omega) (by omega)).trans XC8.out
  have hV9 : Wrote (w.heap.size + 1) (w.heap.size + 1 + 1) w3 w9 := hU8.trans hW9.both
  clear c8 f8 hV8 hU8 hW8 XC8 E8
  obtain ⟨v9, e9⟩ : ∃ v, w9.setCell ⟨w.heap.size + 1 + 1, 5, none⟩ (.int .i64 n6) = v := ⟨_, rfl⟩
  have c9 := msg_cell hx9 5 (.int .i64 0) rfl
  have f9 := thawed hx9 5
  obtain ⟨x9, k9, hU9⟩ := set_to (X := w.heap.size + 1 + 1) hV9 (.int .i64 n6) 5 hx9
  rw [e9] at x9 k9 hU9
  rw [put_view] at x9
  have XC9 := Lib.hid (show v9.heap[w.heap.size + 1 + 1]? = some (.cells (mailCells ⟨n1, n2, n3, n4, n5, n6, 0, 0, 0, noOrd, ⟨0, 0, 0⟩⟩ (.slice none 0 0)) 28 (0, 0)) from x9)
  have E9 := Lib.hid e9
  have hs9 := hU9.below.size
  have rr9 := (k9 (w.heap.size + 1) (by omega)).trans r9
  have X7 := rInt_any hsm rr9
  rw [Q7.out] at X7
  unfold IntOut at X7
  rw [N7.out] at X7
  have X7 := Lib.hid X7
  clear e9 x9 k9 r9 rr9 hx9
  go_wp2_with fail
  rw [E9.out]
  refine X7.out.mono ?_
  rintro e w10 ⟨rfl, r10, hW10⟩
  have hx10 := (hW10.other (w.heap.size + 1 + 1) (by omega) (by omega) (by omega)).trans XC9.out
  have hV10 : Wrote (w.heap.size + 1) (w.heap.size + 1 + 1) w3 w10 := hU9.trans hW10.both
  clear c9 f9 hV9 hU9 hW9 XC9 E9
  obtain ⟨v10, e10⟩ : ∃ v, w10.setCell ⟨w.heap.size + 1 + 1, 6, none⟩ (.int .i64 n7) = v := ⟨_, rfl⟩
  have c10 := msg_cell hx10 6 (.int .i64 0) rfl
  have f10 := thawed hx10 6
  obtain ⟨x10, k10, hU10⟩ := set_to (X := w.heap.size + 1 + 1) hV10 (.int .i64 n7) 6 hx10
  rw [e10] at x10 k10 hU10
  rw [put_base] at x10
  have XC10 := Lib.hid (show v10.heap[w.heap.size + 1 + 1]? = some (.cells (mailCells ⟨n1, n2, n3, n4, n5, n6, n7, 0, 0, noOrd, ⟨0, 0, 0⟩⟩ (.slice none 0 0)) 28 (0, 0)) from x10)
  have E10 := Lib.hid e10
  have hs10 := hU10.below.size
  have rr10 := (k10 (w.heap.size + 1) (by omega)).trans r10
  have X8 := rInt_any hsm rr10
  rw [Q8.out] at X8
  unfold IntOut at X8
  rw [N8.out] at X8
  have X8 := Lib.hid X8
  clear e10 x10 k10 r10 rr10 hx10
  go_wp2_with fail
  rw [E10.out]
  refine X8.out.mono ?_
  rintro e w11 ⟨rfl, r11, hW11⟩
  have hx11 := (hW11.other (w.heap.size + 1 + 1) (by omega) (by omega) (by omega)).trans XC10.out
  have hV11 : Wrote (w.heap.size + 1) (w.heap.size + 1 + 1) w3 w11 := hU10.trans hW11.both
  clear c10 f10 hV10 hU10 hW10 XC10 E10
  obtain ⟨v11, e11⟩ : ∃ v, w11.setCell ⟨w.heap.size + 1 + 1, 7, none⟩ (.int .i64 n8) = v := ⟨_, rfl⟩
  have c11 := msg_cell hx11 7 (.int .i64 0) rfl
  have f11 := thawed hx11 7
  obtain ⟨x11, k11, hU11⟩ := set_to (X := w.heap.size + 1 + 1) hV11 (.int .i64 n8) 7 hx11
  rw [e11] at x11 k11 hU11
  rw [put_length] at x11
  have XC11 := Lib.hid (show v11.heap[w.heap.size + 1 + 1]? = some (.cells (mailCells ⟨n1, n2, n3, n4, n5, n6, n7, n8, 0, noOrd, ⟨0, 0, 0⟩⟩ (.slice none 0 0)) 28 (0, 0)) from x11)
  have E11 := Lib.hid e11
  have hs11 := hU11.below.size
  have rr11 := (k11 (w.heap.size + 1) (by omega)).trans r11
  have X9 := rInt_any hsm rr11
  rw [Q9.out] at X9
  unfold IntOut at X9
  rw [N9.out] at X9
  have X9 := Lib.hid X9
  clear e11 x11 k11 r11 rr11 hx11
  go_wp2_with fail
  rw [E11.out]
  refine X9.out.mono ?_
  rintro e w12 ⟨rfl, r12, hW12⟩
  have hx12 := (hW12.other (w.heap.size + 1 + 1) (by omega) (by omega) (by omega)).trans XC11.out
  have hV12 : Wrote (w.heap.size + 1) (w.heap.size + 1 + 1) w3 w12 := hU11.trans hW12.both
  clear c11 f11 hV11 hU11 hW11 XC11 E11
  obtain ⟨v12, e12⟩ : ∃ v, w12.setCell ⟨w.heap.size + 1 + 1, 8, none⟩ (.int .i64 n9) = v := ⟨_, rfl⟩
  have c12 := msg_cell hx12 8 (.int .i64 0) rfl
  have f12 := thawed hx12 8
  obtain ⟨x12, k12, hU12⟩ := set_to (X := w.heap.size + 1 + 1) hV12 (.int .i64 n9) 8 hx12
  rw [e12] at x12 k12 hU12
  rw [put_stamp] at x12
  have XC12 := Lib.hid (show v12.heap[w.heap.size + 1 + 1]? = some (.cells (mailCells ⟨n1, n2, n3, n4, n5, n6, n7, n8, n9, noOrd, ⟨0, 0, 0⟩⟩ (.slice none 0 0)) 28 (0, 0)) from x12)
  have E12 := Lib.hid e12
  have hs12 := hU12.below.size
  have rr12 := (k12 (w.heap.size + 1) (by omega)).trans r12
  rw [← HP2.out] at rr12
  have XL := rlogRef_any (by omega) hp91 rr12
  rw [HQQ.out] at XL
  have XL := Lib.hid XL
  have XC12' := XC12.out
  rw [HM9.out] at XC12'
  have XC12 := Lib.hid XC12'
  clear e12 x12 k12 r12 rr12 hx12 XC12'
  go_wp2_with fail
  rw [E12.out]
  refine XL.out.mono ?_
  rintro e w13 ⟨v7, rfl, o7, r13, hW13⟩
  have hx13 := (hW13.other (w.heap.size + 1 + 1) (by omega) (by omega) (by omega)).trans XC12.out
  have hV13 : Wrote (w.heap.size + 1) (w.heap.size + 1 + 1) w3 w13 := hU12.trans hW13.both
  clear c12 f12 hV12 hU12 XC12 E12
  obtain ⟨a7, cap7, rfl, -⟩ := ents_owned (B' := 0) o7
  have o7 := owns_le (B' := w.heap.size + 3) o7 (by omega)
  obtain ⟨v13, e13⟩ : ∃ v, w13.setCell ⟨w.heap.size + 1 + 1, 9, none⟩ (.slice a7 q.1.length cap7) = v := ⟨_, rfl⟩
  have c13 := msg_cell hx13 9 (.slice none 0 0) rfl
  have f13 := thawed hx13 9
  obtain ⟨x13, k13, hU13⟩ := set_to (X := w.heap.size + 1 + 1) hV13 (.slice a7 q.1.length cap7) 9 hx13
  obtain ⟨-, -, hU13'⟩ := set_to (R := w.heap.size + 1) (X := w.heap.size + 1 + 1) (Wrote.refl _ _ w13) (.slice a7 q.1.length cap7) 9 hx13
  rw [e13] at x13 k13 hU13 hU13'
  rw [m_set9] at x13
  have O13 := Lib.hid (owns_wrote2 o7 hU13' (by omega) (by omega))
  have XC13 := Lib.hid x13
  have E13 := Lib.hid e13
  have hs13 := hU13.below.size
  have rr13 := (k13 (w.heap.size + 1) (by omega)).trans r13
  have XO := rordRef_any hsm rr13
  rw [HOQ.out] at XO
  have XO := Lib.hid XO
  clear e13 x13 k13 r13 rr13 hx13 o7 hU13' hW13
  go_wp2_with fail
  rw [E13.out]
  refine XO.out.mono ?_
  rintro e w14 ⟨rfl, r14, hW14⟩
  have t9 := (hW14.other (w.heap.size + 1 + 1) (by omega) (by omega) (by omega)).trans XC13.out
  have hV14 : Wrote (w.heap.size + 1) (w.heap.size + 1 + 1) w3 w14 := hU13.trans hW14.both
  have O14 := Lib.hid (owns_wrote2 O13.out (hW14.both (T := w.heap.size + 1 + 1)) (by omega) (by omega))
  have R14 := Lib.hid r14
  clear c13 f13 hV13 hU13 hW14 XC13 E13 r14
  go_wp2_with fail
  rw [run_storeCells_at Tryd.prog (w.heap.size + 1 + 1) 10 28 (ordCells (rdOrd o.1)).toList 0 _ w14 t9 (by simp [mailCells, ordCells]) (by intro v hv; simp [ordCells] at hv; rcases hv with rfl | rfl | rfl | rfl | rfl <;> rfl)]
  rw [m_row]
  simp only [Result.andThen]
  obtain ⟨w15, e15⟩ : ∃ w15, w14.setRow (w.heap.size + 1 + 1) (mailCells (mkM P.1 (rdOrd o.1) []) (.slice a7 q.1.length cap7)) = w15 := ⟨_, rfl⟩
  have hx15 := setRow_heap w14 (w.heap.size + 1 + 1) _ (mailCells (mkM P.1 (rdOrd o.1) []) (.slice a7 q.1.length cap7)) _ _ t9
  have rr15 := (setRow_other w14 (w.heap.size + 1 + 1) (w.heap.size + 1) (mailCells (mkM P.1 (rdOrd o.1) []) (.slice a7 q.1.length cap7)) (by omega)).trans R14.out
  have hU15 := hV14.row (.inr rfl) (mailCells (mkM P.1 (rdOrd o.1) []) (.slice a7 q.1.length cap7))
  have hU15' := (Wrote.refl (w.heap.size + 1) (w.heap.size + 1 + 1) w14).row (.inr rfl) (mailCells (mkM P.1 (rdOrd o.1) []) (.slice a7 q.1.length cap7))
  rw [e15] at hx15 rr15 hU15 hU15' ⊢
  have O15 := Lib.hid (owns_wrote2 O14.out hU15' (by omega) (by omega))
  have hs15 := hU15.below.size
  have XC15 := Lib.hid hx15
  have XI := rInt_any hsm rr15
  rw [Z1.out] at XI
  unfold IntOut at XI
  rw [M1.out] at XI
  have XI := Lib.hid XI
  clear e15 hx15 rr15 hU15' t9 R14
  go_wp2_with fail
  refine XI.out.mono ?_
  rintro e w16 ⟨rfl, r16, hW16⟩
  have hx16 := (hW16.other (w.heap.size + 1 + 1) (by omega) (by omega) (by omega)).trans XC15.out
  have hV16 : Wrote (w.heap.size + 1) (w.heap.size + 1 + 1) w3 w16 := hU15.trans hW16.both
  have O16 := Lib.hid (owns_wrote2 O15.out (hW16.both (T := w.heap.size + 1 + 1)) (by omega) (by omega))
  clear hU15 hW16 XC15 hV14 O15 O14 O13
  obtain ⟨v16, e16⟩ : ∃ v, w16.setCell ⟨w.heap.size + 1 + 1, 15, none⟩ (.int .i64 m1) = v := ⟨_, rfl⟩
  have c16 := msg_cell hx16 15 (.int .i64 0) rfl
  have f16 := thawed hx16 15
  obtain ⟨x16, k16, hU16⟩ := set_to (X := w.heap.size + 1 + 1) hV16 (.int .i64 m1) 15 hx16
  obtain ⟨-, -, hU16'⟩ := set_to (R := w.heap.size + 1) (X := w.heap.size + 1 + 1) (Wrote.refl _ _ w16) (.int .i64 m1) 15 hx16
  rw [e16] at x16 k16 hU16 hU16'
  rw [put_id] at x16
  have OV16 := Lib.hid (owns_wrote2 O16.out hU16' (by omega) (by omega))
  have XC16 := Lib.hid (show v16.heap[w.heap.size + 1 + 1]? = some (.cells (mailCells { (mkM P.1 (rdOrd o.1) []) with ans := ⟨m1, 0, 0⟩ } (.slice a7 q.1.length cap7)) 28 (0, 0)) from x16)
  have E16 := Lib.hid e16
  have hs16 := hU16.below.size
  have rr16 := (k16 (w.heap.size + 1) (by omega)).trans r16
  have XI0 := rInt_any hsm rr16
  rw [Z2.out] at XI0
  unfold IntOut at XI0
  rw [M2.out] at XI0
  have XI0 := Lib.hid XI0
  clear e16 x16 k16 r16 rr16 hx16 hU16'
  go_wp2_with fail
  rw [E16.out]
  refine XI0.out.mono ?_
  rintro e w17 ⟨rfl, r17, hW17⟩
  have hx17 := (hW17.other (w.heap.size + 1 + 1) (by omega) (by omega) (by omega)).trans XC16.out
  have hV17 : Wrote (w.heap.size + 1) (w.heap.size + 1 + 1) w3 w17 := hU16.trans hW17.both
  have O17 := Lib.hid (owns_wrote2 OV16.out (hW17.both (T := w.heap.size + 1 + 1)) (by omega) (by omega))
  clear c16 f16 hV16 hU16 hW17 XC16 E16 OV16
  obtain ⟨v17, e17⟩ : ∃ v, w17.setCell ⟨w.heap.size + 1 + 1, 16, none⟩ (.int .i64 m2) = v := ⟨_, rfl⟩
  have c17 := msg_cell hx17 16 (.int .i64 0) rfl
  have f17 := thawed hx17 16
  obtain ⟨x17, k17, hU17⟩ := set_to (X := w.heap.size + 1 + 1) hV17 (.int .i64 m2) 16 hx17
  obtain ⟨-, -, hU17'⟩ := set_to (R := w.heap.size + 1) (X := w.heap.size + 1 + 1) (Wrote.refl _ _ w17) (.int .i64 m2) 16 hx17
  rw [e17] at x17 k17 hU17 hU17'
  rw [put_code] at x17
  have OV17 := Lib.hid (owns_wrote2 O17.out hU17' (by omega) (by omega))
  have XC17 := Lib.hid (show v17.heap[w.heap.size + 1 + 1]? = some (.cells (mailCells { (mkM P.1 (rdOrd o.1) []) with ans := ⟨m1, m2, 0⟩ } (.slice a7 q.1.length cap7)) 28 (0, 0)) from x17)
  have E17 := Lib.hid e17
  have hs17 := hU17.below.size
  have rr17 := (k17 (w.heap.size + 1) (by omega)).trans r17
  have XI1 := rInt_any hsm rr17
  rw [Z3.out] at XI1
  unfold IntOut at XI1
  rw [M3.out] at XI1
  have XI1 := Lib.hid XI1
  clear e17 x17 k17 r17 rr17 hx17 hU17'
  go_wp2_with fail
  rw [E17.out]
  refine XI1.out.mono ?_
  rintro e w18 ⟨rfl, r18, hW18⟩
  have hx18 := (hW18.other (w.heap.size + 1 + 1) (by omega) (by omega) (by omega)).trans XC17.out
  have hV18 : Wrote (w.heap.size + 1) (w.heap.size + 1 + 1) w3 w18 := hU17.trans hW18.both
  have O18 := Lib.hid (owns_wrote2 OV17.out (hW18.both (T := w.heap.size + 1 + 1)) (by omega) (by omega))
  clear c17 f17 hV17 hU17 hW18 XC17 E17 OV17
  obtain ⟨v18, e18⟩ : ∃ v, w18.setCell ⟨w.heap.size + 1 + 1, 17, none⟩ (.int .i64 m3) = v := ⟨_, rfl⟩
  have c18 := msg_cell hx18 17 (.int .i64 0) rfl
  have f18 := thawed hx18 17
  obtain ⟨x18, k18, hU18⟩ := set_to (X := w.heap.size + 1 + 1) hV18 (.int .i64 m3) 17 hx18
  obtain ⟨-, -, hU18'⟩ := set_to (R := w.heap.size + 1) (X := w.heap.size + 1 + 1) (Wrote.refl _ _ w18) (.int .i64 m3) 17 hx18
  rw [e18] at x18 k18 hU18 hU18'
  rw [put_ver] at x18
  have OV18 := Lib.hid (owns_wrote2 O18.out hU18' (by omega) (by omega))
  have XC18 := Lib.hid (show v18.heap[w.heap.size + 1 + 1]? = some (.cells (mailCells { (mkM P.1 (rdOrd o.1) []) with ans := ⟨m1, m2, m3⟩ } (.slice a7 q.1.length cap7)) 28 (0, 0)) from x18)
  have E18 := Lib.hid e18
  have hs18 := hU18.below.size
  have rr18 := (k18 (w.heap.size + 1) (by omega)).trans r18
  have x18' := XC18.out
  rw [HM12.out] at x18'
  have s18 := hU18.below.size
  have D12 := Lib.hid ((hU18.other w.heap.size (by omega) (by omega) (by omega)).trans D3.out)
  have B12 := Lib.hid (b3.trans (hU18.toBelow (by omega) (by omega) (by omega)))
  have O12 := Lib.hid (owns_le (B' := w.heap.size) OV18.out (by omega))
  have R12 := Lib.hid rr18
  have T12 := Lib.hid x18'
  have hrg := msg_range x18'
  have hEQ := HY2.out
  have hHM := HN.out
  clear x18' e18 x18 k18 r18 rr18 hx18 hU18' HM9 HM12 XX3 D3 HP2 Q2 Q3 Q4 Q5 Q6 Q7 Q8 Q9 Z1 Z2 Z3 HQQ HOQ XC18
  go_upto_region 17 with fail
  rw [E18.out]
  clear c18 f18 hV18 hU18 E18 E3
  have HYY := Lib.hid hEQ
  clear hEQ hHM
  generalize mkM P.1 (rdOrd o.1) y.1 = m at *
  have HEN := ents_owned (B' := w.heap.size) O12.out
  have h18 : w.heap.size + 3 ≤ v18.heap.size := by omega
  by_cases hm : mayM m q.1 n = true
  · have HM := Lib.hid (refEncM_yes HEN (by omega) HN.out HEO.out hm)
    clear HEN
    go_wp2_with (refine load_midG (by rfl) _ _ rfl _ _ rfl _ _ hrg Tryd.underlying28 rfl (by kernel_rfl) ?_)
    refine HM.out.mono ?_
    rintro e w13 ⟨rfl, b13⟩
    have r13 := (b13.block (w.heap.size + 1) (by omega)).trans R12.out
    have t13 := (b13.block (w.heap.size + 1 + 1) (by omega)).trans T12.out
    have d13 := (b13.block w.heap.size (by omega)).trans D12.out
    clear hrg
    obtain ⟨y0, y1', y2'⟩ := rd_cells r13
    have T13 := Lib.hid t13
    have D13 := Lib.hid d13
    have B13 := B12.out.trans (b13.mono B12.out.size)
    clear r13 t13 d13
    cases hb : y3.2.2 with
    | true =>
      have hyb : y.2.2 = true := by rw [HYY.out]; exact hb
      rw [hb] at y2'
      go_wp2_with (refine wpList_store_row rfl _ _ _ rfl w.heap.size noneM rfl rfl _ _ D13.out (by kernel_rfl) rfl (by simp [noneM, mailCells, noM, noOrd, Value.oneCell']) ?_)
      (try simp only [Exit.inBlock, Exit.then])
      have hk : (w13.setRow w.heap.size noneM).rangeAt w.heap.size 0 noneM.toList := msg_range (m := noM) (setRow_heap w13 w.heap.size _ noneM _ _ D13.out)
      have hr := run_loadVar_mid (P := Tryd.prog) _ w.heap.size 0 28 _ _ hk Tryd.underlying28 rfl (by kernel_rfl)
      refine bodyPost_ret (res_cell2 Tryd.results16 rfl hr rfl) rfl ⟨below_setRow B13 (Nat.le_refl _) _, fun _ => rfl, fun x hx => ?_⟩
      rw [HD.out] at hx
      simp [hyb] at hx
    | false =>
      have hyb : y.2.2 = false := by rw [HYY.out]; exact hb
      rw [hb] at y2'
      by_cases hq : encM m q.1 = s.data.toList
      · have d1 : (!((str (encM m q.1)).toList == s.toList)) = false := by rw [hq]; simp [str]
        have hx3 := msg_range T13.out
        have hq' := Lib.hid hq
        clear hq
        go_wp2_with (first | (refine wpList_load_mid rfl _ _ rfl _ _ rfl _ _ hx3 Tryd.underlying28 rfl (by kernel_rfl) ?_) | refine wpList_store_row rfl _ _ _ rfl w.heap.size (mailCells m (.slice a7 q.1.length cap7)) rfl rfl _ _ D13.out (by kernel_rfl) rfl (by simp [mailCells, Value.oneCell']) ?_)
        (try simp only [Exit.inBlock, Exit.then])
        have hk := msg_range (setRow_heap w13 w.heap.size _ (mailCells m (.slice a7 q.1.length cap7)) _ _ D13.out)
        have hr := run_loadVar_mid (P := Tryd.prog) _ w.heap.size 0 28 _ _ hk Tryd.underlying28 rfl (by kernel_rfl)
        refine bodyPost_ret (res_cell2 Tryd.results16 rfl hr rfl) rfl ⟨below_setRow B13 (Nat.le_refl _) _, fun hx => ?_, fun x hx => ?_⟩
        · rw [HD.out, if_pos ⟨hyb, hm, hq'.out⟩] at hx
          cases hx
        · rw [HD.out, if_pos ⟨hyb, hm, hq'.out⟩] at hx
          cases hx
          exact ⟨_, _, rfl, row_row (owns_below O12.out b13) D13.out (by decide)⟩
      · have d1 : (!((str (encM m q.1)).toList == s.toList)) = true := by
          have h : (str (encM m q.1)).toList ≠ s.toList := fun h => hq (by simpa [str, ByteArray.toList_eq] using h)
          simpa using h
        have hq' := Lib.hid hq
        clear hq
        go_wp2_with (refine wpList_store_row rfl _ _ _ rfl w.heap.size noneM rfl rfl _ _ D13.out (by kernel_rfl) rfl (by simp [noneM, mailCells, noM, noOrd, Value.oneCell']) ?_)
        (try simp only [Exit.inBlock, Exit.then])
        have hk : (w13.setRow w.heap.size noneM).rangeAt w.heap.size 0 noneM.toList := msg_range (m := noM) (setRow_heap w13 w.heap.size _ noneM _ _ D13.out)
        have hr := run_loadVar_mid (P := Tryd.prog) _ w.heap.size 0 28 _ _ hk Tryd.underlying28 rfl (by kernel_rfl)
        refine bodyPost_ret (res_cell2 Tryd.results16 rfl hr rfl) rfl ⟨below_setRow B13 (Nat.le_refl _) _, fun _ => rfl, fun x hx => ?_⟩
        rw [HD.out] at hx
        exact absurd hx (by simp [hq'.out])
  · have hm' : mayM m q.1 n = false := by simpa using hm
    have HM := Lib.hid (refEncM_no HEN (by omega) HN.out HEO.out hm')
    clear HEN
    go_wp2_with (refine load_midG (by rfl) _ _ rfl _ _ rfl _ _ hrg Tryd.underlying28 rfl (by kernel_rfl) ?_)
    refine HM.out.mono ?_
    rintro e w13 ⟨rfl, b13⟩
    have r13 := (b13.block (w.heap.size + 1) (by omega)).trans R12.out
    have t13 := (b13.block (w.heap.size + 1 + 1) (by omega)).trans T12.out
    have d13 := (b13.block w.heap.size (by omega)).trans D12.out
    clear hrg
    obtain ⟨y0, y1', y2'⟩ := rd_cells r13
    have T13 := Lib.hid t13
    have D13 := Lib.hid d13
    have B13 := B12.out.trans (b13.mono B12.out.size)
    clear r13 t13 d13
    cases hb : y3.2.2
    all_goals
      rw [hb] at y2'
      go_wp2_with (refine wpList_store_row rfl _ _ _ rfl w.heap.size noneM rfl rfl _ _ D13.out (by kernel_rfl) rfl (by simp [noneM, mailCells, noM, noOrd, Value.oneCell']) ?_)
      (try simp only [Exit.inBlock, Exit.then])
      have hk : (w13.setRow w.heap.size noneM).rangeAt w.heap.size 0 noneM.toList := msg_range (m := noM) (setRow_heap w13 w.heap.size _ noneM _ _ D13.out)
      have hr := run_loadVar_mid (P := Tryd.prog) _ w.heap.size 0 28 _ _ hk Tryd.underlying28 rfl (by kernel_rfl)
      refine bodyPost_ret (res_cell2 Tryd.results16 rfl hr rfl) rfl ⟨below_setRow B13 (Nat.le_refl _) _, fun _ => rfl, fun x hx => ?_⟩
      rw [HD.out] at hx
      simp [hm'] at hx
end Go.Proofs.YtnekpehgaojkaaaDoor
