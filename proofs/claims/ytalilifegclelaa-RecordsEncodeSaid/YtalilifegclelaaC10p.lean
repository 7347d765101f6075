/- records.Decode. -/
import Derived.Test.YtalilifegclelaaC10o
namespace Go.Proofs.Ytalilifegclelaa
open Go.RowKit

def noNum : RNum := ⟨0, 0, 0, 0, 0, 0⟩
def noRec : Array Value := recCells noNum (.slice none 0 0) (.slice none 0 0)
/-- The memory that Decode begins with. -/
theorem dec_world (w : World) (s : ByteArray) : ∃ w5, (((((w.alloc (.cells noRec 25)).alloc (.cells (rdCells s 0 false) 58)).alloc (.cells #[.pointer (some ⟨w.heap.size + 1, 0, none⟩)] 56)).alloc
      (.cells noRec 25)).alloc (.cells (ptrs (w.heap.size + 1 + 1 + 1) [0, 1, 2, 3, 4, 5]).toArray 60)) = w5 ∧ Below w.heap.size w w5 ∧ w5.heap.size = w.heap.size + 5 ∧
    w5.heap[w.heap.size]? = some (.cells noRec 25 (0, 0)) ∧ w5.heap[w.heap.size + 1]? = some (.cells (rdCells s 0 false) 58 (0, 0)) ∧ w5.heap[w.heap.size + 2]? = some (.cells #[.pointer (some ⟨w.heap.size + 1, 0, none⟩)] 56 (0, 0)) ∧
    w5.heap[w.heap.size + 3]? = some (.cells noRec 25 (0, 0)) ∧ ∀ j (h : j < [0, 1, 2, 3, 4, 5].length), w5.cell? ⟨w.heap.size + 4, 0 + j, none⟩ = some (.pointer (some ⟨w.heap.size + 3, [0, 1, 2, 3, 4, 5][j], none⟩)) := by
  obtain ⟨w1, e1, b1, s1, h1⟩ := boxed w noRec 25
  obtain ⟨w2, e2, b2, s2, h2⟩ := boxed w1 (rdCells s 0 false) 58
  obtain ⟨w3, e3, b3, s3, h3⟩ := boxed w2 #[.pointer (some ⟨w.heap.size + 1, 0, none⟩)] 56
  obtain ⟨w4, e4, b4, s4, h4⟩ := boxed w3 noRec 25
  obtain ⟨w5, e5, b5, s5, h5⟩ := ptrs_built w4 (w.heap.size + 1 + 1 + 1) [0, 1, 2, 3, 4, 5] 60
  rw [e1, e2, e3, e4, e5]
  rw [s1] at h2
  rw [s2, s1] at h3
  rw [s3, s2, s1] at h4
  rw [s4, s3, s2, s1] at h5
  refine ⟨w5, rfl, b1.trans ((b2.mono b1.size).trans ((b3.mono (by omega)).trans ((b4.mono (by omega)).trans (b5.mono (by omega))))), by omega, ?_, ?_, ?_, ?_, h5⟩
  · rw [b5.block _ (by omega), b4.block _ (by omega), b3.block _ (by omega), b2.block _ (by omega)]; exact h1
  · rw [b5.block _ (by omega), b4.block _ (by omega), b3.block _ (by omega)]; exact h2
  · rw [b5.block _ (by omega), b4.block _ (by omega)]; exact h3
  · rw [b5.block _ (by omega)]; exact h4

theorem rec_put : ∀ (xs : List Int) (v6 v7 : Value), xs.length ≤ 6 → putAt (recCells noNum v6 v7) [0, 1, 2, 3, 4, 5] xs = recCells (rdNum xs) v6 v7
  | [], _, _, _ => rfl
  | [_], _, _, _ => rfl
  | [_, _], _, _, _ => rfl
  | [_, _, _], _, _, _ => rfl
  | [_, _, _, _], _, _, _ => rfl
  | [_, _, _, _, _], _, _, _ => rfl
  | [_, _, _, _, _, _], _, _, _ => rfl
  | _ :: _ :: _ :: _ :: _ :: _ :: _ :: _, _, _, h => by simp at h

/-- What Decode answers: a record whose lists are its own, or a refusal. -/
def DecOut (w : World) (o : Option (RNum × List Ent × List Spt)) (e : Ending) (w' : World) : Prop :=
  Below w.heap.size w w' ∧ (o = none → e = .returned (.tuple #[.agg (recCells noNum (.slice none 0 0) (.slice none 0 0)), .int .i64 30])) ∧
  ∀ x, o = some x → ∃ a7 c7 a9 c9, e = .returned (.tuple #[.agg (recCells x.1 (.slice a7 x.2.1.length c7) (.slice a9 x.2.2.length c9)), .int .i64 0]) ∧
    w'.ownsRow w.heap.size 30 6 (.slice a7 x.2.1.length c7) x.2.1.length (entVals x.2.1) ∧ w'.ownsRow w.heap.size 32 2 (.slice a9 x.2.2.length c9) x.2.2.length (sptVals x.2.2)
theorem owns_le {B B' n sz : Nat} {e : TypeId} {w : World} {v : Value} {xs : List Value} (h : w.ownsRow B e sz v n xs) (hB : B' ≤ B) : w.ownsRow B' e sz v n xs := by
  refine ⟨h.1, h.2.imp_right ?_⟩
  rintro ⟨g, cap, cur, rfl, hg, rest⟩
  exact ⟨g, cap, cur, rfl, Nat.le_trans hB hg, rest⟩
theorem owns_below {B n sz : Nat} {e : TypeId} {w w' : World} {v : Value} {xs : List Value} (h : w.ownsRow B e sz v n xs) (hb : Below w.heap.size w w') : w'.ownsRow B e sz v n xs := by
  refine ⟨h.1, h.2.imp_right ?_⟩
  rintro ⟨g, cap, cur, rfl, hg, hh, rest⟩
  exact ⟨g, cap, cur, rfl, hg, (hb.block g (Array.getElem?_eq_some_iff.1 hh).1).trans hh, rest⟩
theorem row_row {B n sz g : Nat} {e t : TypeId} {w : World} {v : Value} {xs : List Value} {cs cur : Array Value} (h : w.ownsRow B e sz v n xs) (hg : w.heap[g]? = some (.cells cur t (0, 0))) (ht : e ≠ t) : (w.setRow g cs).ownsRow B e sz v n xs := by
  refine ⟨h.1, h.2.imp_right ?_⟩
  rintro ⟨g', cap, cur', rfl, hB, hh, rest⟩
  refine ⟨g', cap, cur', rfl, hB, ?_, rest⟩
  rw [setRow_other _ _ _ _ (by rintro rfl; rw [hg] at hh; injection hh with h1; injection h1 with _ h2; exact ht h2.symm)]
  exact hh
theorem rdEnts_pos {s : List UInt8} : ∀ (k a : Nat) (b : Bool), a ≤ s.length → (rdEnts s k a b).2.1 ≤ s.length
  | 0, a, b, h => by simpa [rdEnts] using h
  | k + 1, a, true, h => by rw [rdEnts_bad]; exact h
  | k + 1, a, false, h => by rw [rdEnts_good]; exact rdEnts_pos k _ _ (rdEnt_pos h).2.1
theorem rdEnts_len {s : List UInt8} : ∀ (k a : Nat) (b : Bool), a ≤ s.length → (rdEnts s k a b).1.length ≤ s.length - a + 1
  | 0, a, b, h => by simp [rdEnts]
  | k + 1, a, true, h => by rw [rdEnts_bad]; simp
  | k + 1, a, false, h => by
    rw [rdEnts_good]
    obtain ⟨p1, p2, p3⟩ := rdEnt_pos (b := false) h
    rw [List.length_cons]
    cases hb : (rdEnt s a false).2.2 with
    | true => rw [rdEnts_bad]; simp
    | false =>
      have := rdEnts_len k (rdEnt s a false).2.1 false p2
      have := p3 hb
      omega
theorem rdSpts_len {s : List UInt8} : ∀ (k a : Nat) (b : Bool), a ≤ s.length → (rdSpts s k a b).1.length ≤ s.length - a + 1
  | 0, a, b, h => by simp [rdSpts]
  | k + 1, a, true, h => by rw [rdSpts_bad]; simp
  | k + 1, a, false, h => by
    rw [rdSpts_good]
    obtain ⟨p1, p2, p3⟩ := rdSpt_pos (b := false) h
    rw [List.length_cons]
    cases hb : (rdSpt s a false).2.2 with
    | true => rw [rdSpts_bad]; simp
    | false =>
      have := rdSpts_len k (rdSpt s a false).2.1 false p2
      have := p3 hb
      omega
theorem rdEntL_len {s : List UInt8} (a : Nat) (b : Bool) (h : a ≤ s.length) : (rdEntL s a b).1.length ≤ s.length + 1 := Nat.le_trans (rdEnts_len _ _ _ (rdL_pos 1 a b h).2.1) (by omega)
theorem rdSptL_len {s : List UInt8} (a : Nat) (b : Bool) (h : a ≤ s.length) : (rdSptL s a b).1.length ≤ s.length + 1 := Nat.le_trans (rdSpts_len _ _ _ (rdL_pos 1 a b h).2.1) (by omega)
theorem rdEntL_pos {s : List UInt8} (a : Nat) (b : Bool) (h : a ≤ s.length) : (rdEntL s a b).2.1 ≤ s.length := rdEnts_pos _ _ _ (rdL_pos 1 a b h).2.1

set_option maxRecDepth 100000 in
set_option maxHeartbeats 4000000 in
theorem decodeR_any {s : ByteArray} (hs : s.size ≤ 900000) (w : World) :
    Calls Try.prog 16 #[.string s] w (DecOut w (decR s.data.toList)) := by
  obtain ⟨w5, e5, b5, s5, d5, r5, k5, x5, p5⟩ := dec_world w s
  have E5 := Lib.hid (show (((((w.alloc (.cells #[.int .i64 0, .int .i64 0, .int .i64 0, .int .i64 0, .int .i64 0, .int .i64 0, .slice none 0 0, .slice none 0 0] 25)).alloc (.cells #[.string s, .int .i64 0, .bool false] 58)).alloc (.cells #[.pointer (some ⟨w.heap.size + 1, 0, none⟩)] 56)).alloc
      (.cells #[.int .i64 0, .int .i64 0, .int .i64 0, .int .i64 0, .int .i64 0, .int .i64 0, .slice none 0 0, .slice none 0 0] 25)).alloc (.cells #[.pointer (some ⟨w.heap.size + 1 + 1 + 1, 0, none⟩), .pointer (some ⟨w.heap.size + 1 + 1 + 1, 1, none⟩), .pointer (some ⟨w.heap.size + 1 + 1 + 1, 2, none⟩), .pointer (some ⟨w.heap.size + 1 + 1 + 1, 3, none⟩), .pointer (some ⟨w.heap.size + 1 + 1 + 1, 4, none⟩), .pointer (some ⟨w.heap.size + 1 + 1 + 1, 5, none⟩)] 60)) = w5 from e5)
  have HX := Lib.hid (rints_any (R := w.heap.size + 1) (T := w.heap.size + 3) (g := w.heap.size + 4) (off := 0) (cap := 6) (os := [0, 1, 2, 3, 4, 5]) (Nat.le_trans hs (by decide)) r5 x5 (by omega) (by omega) (by omega) (by omega)
    (by intro o ho; simp at ho; rcases ho with rfl | rfl | rfl | rfl | rfl | rfl <;> exact ⟨0, rfl⟩) (by decide) p5)
  have hq : ([0, 1, 2, 3, 4, 5] : List Nat).length = 6 := rfl
  rw [hq] at HX
  have hl6 := rdL_len s.data.toList 6 0 false
  have hp6 := rdL_pos (s := s.data.toList) 6 0 false (Nat.zero_le _)
  rw [bytes_len] at hp6
  have D5 := Lib.hid d5
  have K5 := Lib.hid k5
  clear e5 d5 r5 k5 x5 p5
  go_enter Try.func16, Try.ntmps16
  go_wp2_with fail
  rw [E5.out]
  refine HX.out.mono ?_
  rintro e w6 ⟨rfl, r6, t6, hW6⟩
  rw [show noRec = recCells noNum (.slice none 0 0) (.slice none 0 0) from rfl, rec_put _ _ _ hl6] at t6
  have k6 := (hW6.other (w.heap.size + 2) (by omega) (by omega) (by omega)).trans K5.out
  have HE := Lib.hid (readEnts_any (by omega) hp6.2.1 r6)
  have kc : w6.cell? ⟨w.heap.size + 2, 0, none⟩ = some (.pointer (some ⟨w.heap.size + 1, 0, none⟩)) := by simp [World.cell?, k6]
  have K6 := Lib.hid k6
  have T6 := Lib.hid t6
  clear r6 t6 k6
  go_wp2_with fail
  refine HE.out.mono ?_
  rintro e w7 ⟨v7, rfl, o7, r7, hW7⟩
  obtain ⟨a7, cap7, rfl, -⟩ := ents_owned (B' := 0) o7
  have hs6 := hW6.below.size
  have hs7 := hW7.below.size
  have t7 := (hW7.other (w.heap.size + 3) (by omega) (by omega) (by omega)).trans T6.out
  have k7 := (hW7.other (w.heap.size + 2) (by omega) (by omega) (by omega)).trans K6.out
  have f7 := thawed t7 6
  have x7 : w7.cell? ⟨w.heap.size + 3, 6, none⟩ = some (.slice none 0 0) := by simp [World.cell?, t7, recCells]
  have kd : w7.cell? ⟨w.heap.size + 2, 0, none⟩ = some (.pointer (some ⟨w.heap.size + 1, 0, none⟩)) := by simp [World.cell?, k7]
  have O7 := Lib.hid o7
  have R7 := Lib.hid r7
  have T7 := Lib.hid t7
  have K7 := Lib.hid k7
  clear o7 r7 t7 k7 kc
  obtain ⟨w8, e8⟩ : ∃ w8, w7.setCell ⟨w.heap.size + 1 + 1 + 1, 6, none⟩ (.slice a7 (rdEntL s.data.toList (rdL s.data.toList 6 0 false).2.1 (rdL s.data.toList 6 0 false).2.2).1.length cap7) = w8 := ⟨_, rfl⟩
  obtain ⟨t8, k8, hW8⟩ := rd_setTo (R := w.heap.size + 3) (o := 6) (v := .slice a7 (rdEntL s.data.toList (rdL s.data.toList 6 0 false).2.1 (rdL s.data.toList 6 0 false).2.2).1.length cap7) T7.out (Wrote.refl _ _ w7)
  rw [show w.heap.size + 3 = w.heap.size + 1 + 1 + 1 from rfl] at t8 k8 hW8
  rw [e8] at t8 k8 hW8
  have E8 := Lib.hid e8
  have r8 := (k8 (w.heap.size + 1) (by omega)).trans R7.out
  have kk8 := (k8 (w.heap.size + 2) (by omega)).trans K7.out
  have hpe := rdEntL_pos (s := s.data.toList) (rdL s.data.toList 6 0 false).2.1 (rdL s.data.toList 6 0 false).2.2 (by rw [bytes_len]; exact hp6.2.1)
  rw [bytes_len] at hpe
  have hle := rdEntL_len (s := s.data.toList) (rdL s.data.toList 6 0 false).2.1 (rdL s.data.toList 6 0 false).2.2 (by rw [bytes_len]; exact hp6.2.1)
  have hlf := rdSptL_len (s := s.data.toList) (rdEntL s.data.toList (rdL s.data.toList 6 0 false).2.1 (rdL s.data.toList 6 0 false).2.2).2.1 (rdEntL s.data.toList (rdL s.data.toList 6 0 false).2.1 (rdL s.data.toList 6 0 false).2.2).2.2 (by rw [bytes_len]; exact hpe)
  rw [bytes_len] at hle hlf
  have HF := Lib.hid (readSpts_any (C := w.heap.size + 2) (by omega) hpe r8 (by simp [World.cell?, kk8]) (by omega))
  have O8 := Lib.hid (owns_wrote O7.out hW8 (by omega))
  have hs8 := hW8.below.size
  have T8 := Lib.hid t8
  have K8 := Lib.hid kk8
  clear e8 t8 r8 kk8
  go_wp2_with fail
  rw [E8.out]
  refine HF.out.mono ?_
  rintro e w9 ⟨v9, rfl, o9, r9, hW9⟩
  obtain ⟨a9, cap9, rfl, -⟩ := spts_owned (B' := 0) o9
  have hs9 := hW9.below.size
  have O9 := Lib.hid (owns_wrote O8.out hW9 (by omega))
  have t9 := (hW9.other (w.heap.size + 1 + 1 + 1) (by omega) (by omega) (by omega)).trans T8.out
  have k9 := (hW9.other (w.heap.size + 2) (by omega) (by omega) (by omega)).trans K8.out
  rw [show (recCells (rdNum (rdL s.data.toList 6 0 false).1) (.slice none 0 0) (.slice none 0 0)).setIfInBounds 6 (.slice a7 (rdEntL s.data.toList (rdL s.data.toList 6 0 false).2.1 (rdL s.data.toList 6 0 false).2.2).1.length cap7) = recCells (rdNum (rdL s.data.toList 6 0 false).1) (.slice a7 (rdEntL s.data.toList (rdL s.data.toList 6 0 false).2.1 (rdL s.data.toList 6 0 false).2.2).1.length cap7) (.slice none 0 0) from rfl] at t9
  have f9 := thawed t9 7
  obtain ⟨c0, c1, c2, c3, c4, c5, c6, c7⟩ := rec_cells t9
  have P9 := Lib.hid o9
  have R9 := Lib.hid r9
  have T9 := Lib.hid t9
  have K9 := Lib.hid k9
  clear o9 r9 t9 k9 x7 kd f7
  go_wp2_with fail
  obtain ⟨w10, e10⟩ : ∃ w10, w9.setCell ⟨w.heap.size + 1 + 1 + 1, 7, none⟩ (.slice a9 (rdSptL s.data.toList (rdEntL s.data.toList (rdL s.data.toList 6 0 false).2.1 (rdL s.data.toList 6 0 false).2.2).2.1 (rdEntL s.data.toList (rdL s.data.toList 6 0 false).2.1 (rdL s.data.toList 6 0 false).2.2).2.2).1.length cap9) = w10 := ⟨_, rfl⟩
  rw [e10]
  obtain ⟨t10, k10, hW10⟩ := rd_setTo (R := w.heap.size + 1 + 1 + 1) (o := 7) (v := .slice a9 (rdSptL s.data.toList (rdEntL s.data.toList (rdL s.data.toList 6 0 false).2.1 (rdL s.data.toList 6 0 false).2.2).2.1 (rdEntL s.data.toList (rdL s.data.toList 6 0 false).2.1 (rdL s.data.toList 6 0 false).2.2).2.2).1.length cap9) T9.out (Wrote.refl _ _ w9)
  rw [e10] at t10 k10 hW10
  have D10 := Lib.hid ((k10 w.heap.size (by omega)).trans ((hW9.other w.heap.size (by omega) (by omega) (by omega)).trans ((k8 w.heap.size (by omega)).trans ((hW7.other w.heap.size (by omega) (by omega) (by omega)).trans ((hW6.other w.heap.size (by omega) (by omega) (by omega)).trans D5.out)))))
  have R10 := Lib.hid ((k10 (w.heap.size + 1) (by omega)).trans R9.out)
  have K10 := Lib.hid ((k10 (w.heap.size + 2) (by omega)).trans K9.out)
  have B10 : Below w.heap.size w w10 := b5.trans ((hW6.toBelow (by omega) (by omega) (by omega)).trans ((hW7.toBelow (by omega) (by omega) (by omega)).trans ((hW8.toBelow (by omega) (by omega) (by omega)).trans ((hW9.toBelow (by omega) (by omega) (by omega)).trans (hW10.toBelow (by omega) (by omega) (by omega))))))
  have O10 := Lib.hid (owns_le (B' := w.heap.size) (owns_wrote O9.out hW10 (by omega)) (by omega))
  have P10 := Lib.hid (owns_le (B' := w.heap.size) (owns_wrote P9.out hW10 (by omega)) (by omega))
  have HD := Lib.hid (show decR s.data.toList = if (rdSptL s.data.toList (rdEntL s.data.toList (rdL s.data.toList 6 0 false).2.1 (rdL s.data.toList 6 0 false).2.2).2.1 (rdEntL s.data.toList (rdL s.data.toList 6 0 false).2.1 (rdL s.data.toList 6 0 false).2.2).2.2).2.2 = false ∧ mayR (rdNum (rdL s.data.toList 6 0 false).1) (rdEntL s.data.toList (rdL s.data.toList 6 0 false).2.1 (rdL s.data.toList 6 0 false).2.2).1 (rdSptL s.data.toList (rdEntL s.data.toList (rdL s.data.toList 6 0 false).2.1 (rdL s.data.toList 6 0 false).2.2).2.1 (rdEntL s.data.toList (rdL s.data.toList 6 0 false).2.1 (rdL s.data.toList 6 0 false).2.2).2.2).1 = true ∧
      encR (rdNum (rdL s.data.toList 6 0 false).1) (rdEntL s.data.toList (rdL s.data.toList 6 0 false).2.1 (rdL s.data.toList 6 0 false).2.2).1 (rdSptL s.data.toList (rdEntL s.data.toList (rdL s.data.toList 6 0 false).2.1 (rdL s.data.toList 6 0 false).2.2).2.1 (rdEntL s.data.toList (rdL s.data.toList 6 0 false).2.1 (rdL s.data.toList 6 0 false).2.2).2.2).1 = s.data.toList then some (rdNum (rdL s.data.toList 6 0 false).1, (rdEntL s.data.toList (rdL s.data.toList 6 0 false).2.1 (rdL s.data.toList 6 0 false).2.2).1, (rdSptL s.data.toList (rdEntL s.data.toList (rdL s.data.toList 6 0 false).2.1 (rdL s.data.toList 6 0 false).2.2).2.1 (rdEntL s.data.toList (rdL s.data.toList 6 0 false).2.1 (rdL s.data.toList 6 0 false).2.2).2.2).1) else none from rfl)
  have HN := Lib.hid (rdNum_ok s.data.toList 6 0 false)
  have HEO := Lib.hid (show EntsOk (rdEntL s.data.toList (rdL s.data.toList 6 0 false).2.1 (rdL s.data.toList 6 0 false).2.2).1 from rdEnts_ok _ _ _ _)
  have HFO := Lib.hid (show SptsOk (rdSptL s.data.toList (rdEntL s.data.toList (rdL s.data.toList 6 0 false).2.1 (rdL s.data.toList 6 0 false).2.2).2.1 (rdEntL s.data.toList (rdL s.data.toList 6 0 false).2.1 (rdL s.data.toList 6 0 false).2.2).2.2).1 from rdSpts_ok _ _ _ _)
  have T10 := Lib.hid t10
  have hsA := hW10.below.size
  clear e10 t10 k10 hW10 O9 P9 R9 T9 K9 O8 T8 K8 O7 R7 T7 K7 E8 D5 K5 K6 T6 HE HF HX E5 hW6 hW7 hW8 hW9 k8 c0 c1 c2 c3 c4 c5 c6 c7 f9 hpe
  generalize rdSptL s.data.toList (rdEntL s.data.toList (rdL s.data.toList 6 0 false).2.1 (rdL s.data.toList 6 0 false).2.2).2.1 (rdEntL s.data.toList (rdL s.data.toList 6 0 false).2.1 (rdL s.data.toList 6 0 false).2.2).2.2 = r at *
  generalize rdEntL s.data.toList (rdL s.data.toList 6 0 false).2.1 (rdL s.data.toList 6 0 false).2.2 = q at *
  generalize rdNum (rdL s.data.toList 6 0 false).1 = n at *
  have HEN := ents_owned (B' := w.heap.size) O10.out
  have HFN := spts_owned (B' := w.heap.size) P10.out
  by_cases hm : mayR n q.1 r.1 = true
  · have HM := Lib.hid (encodeR_yes HEN HFN HN.out HEO.out HFO.out hm)
    clear HEN HFN
    refine HM.out.mono ?_
    rintro e w11 ⟨rfl, b11⟩
    have hs10 : w.heap.size + 5 ≤ w10.heap.size := by omega
    have r11 := (b11.block (w.heap.size + 1) (by omega)).trans R10.out
    have t11 := (b11.block (w.heap.size + 1 + 1 + 1) (by omega)).trans T10.out
    have d11 := (b11.block w.heap.size (by omega)).trans D10.out
    have k11 := (b11.block (w.heap.size + 2) (by omega)).trans K10.out
    have kc : w11.cell? ⟨w.heap.size + 2, 0, none⟩ = some (.pointer (some ⟨w.heap.size + 1, 0, none⟩)) := by simp [World.cell?, k11]
    obtain ⟨c0, c1, c2⟩ := rd_cells r11
    have T11 := Lib.hid t11
    have D11 := Lib.hid d11
    have B11 := B10.trans (b11.mono B10.size)
    clear r11 t11 d11 k11
    cases hb : r.2.2 with
    | true =>
      rw [hb] at c2 HD
      go_wp2_with (refine wpList_store_row rfl _ _ _ rfl w.heap.size noRec rfl rfl _ _ D11.out (by kernel_rfl) rfl (by simp [noRec, recCells, noNum, Value.oneCell']) ?_)
      (try simp only [Exit.inBlock, Exit.then])
      obtain ⟨k0, k1, k2, k3, k4, k5, k6, k7⟩ := rec_cells (setRow_heap w11 w.heap.size _ noRec _ _ D11.out)
      refine bodyPost_ret (by simp [results, Try.results16, go_sem, k0, k1, k2, k3, k4, k5, k6, k7]; rfl) rfl ⟨below_setRow B11 (Nat.le_refl _) _, fun _ => rfl, fun x hx => ?_⟩
      rw [HD.out] at hx
      simp at hx
    | false =>
      rw [hb] at c2 HD
      by_cases hq : encR n q.1 r.1 = s.data.toList
      · have d1 : (!((str (encR n q.1 r.1)).toList == s.toList)) = false := by rw [hq]; simp [str]
        obtain ⟨x0, x1, x2, x3, x4, x5, x6, x7⟩ := rec_cells (n := n) T11.out
        have hq' := Lib.hid hq
        clear hq
        go_wp2_with (refine wpList_store_row rfl _ _ _ rfl w.heap.size (recCells n (.slice a7 q.1.length cap7) (.slice a9 r.1.length cap9)) rfl rfl _ _ D11.out (by kernel_rfl) rfl (by simp [recCells, Value.oneCell']) ?_)
        (try simp only [Exit.inBlock, Exit.then])
        obtain ⟨k0, k1, k2, k3, k4, k5, k6, k7⟩ := rec_cells (setRow_heap w11 w.heap.size _ (recCells n (.slice a7 q.1.length cap7) (.slice a9 r.1.length cap9)) _ _ D11.out)
        refine bodyPost_ret (by simp [results, Try.results16, go_sem, k0, k1, k2, k3, k4, k5, k6, k7]; rfl) rfl ⟨below_setRow B11 (Nat.le_refl _) _, fun hx => ?_, fun x hx => ?_⟩
        · rw [HD.out, if_pos ⟨trivial, hm, hq'.out⟩] at hx
          cases hx
        · rw [HD.out, if_pos ⟨trivial, hm, hq'.out⟩] at hx
          cases hx
          exact ⟨_, _, _, _, rfl, row_row (owns_below O10.out b11) D11.out (by decide), row_row (owns_below P10.out b11) D11.out (by decide)⟩
      · have d1 : (!((str (encR n q.1 r.1)).toList == s.toList)) = true := by
          have h : (str (encR n q.1 r.1)).toList ≠ s.toList := fun h => hq (by simpa [str, ByteArray.toList_eq] using h)
          simpa using h
        have hq' := Lib.hid hq
        clear hq
        go_wp2_with (refine wpList_store_row rfl _ _ _ rfl w.heap.size noRec rfl rfl _ _ D11.out (by kernel_rfl) rfl (by simp [noRec, recCells, noNum, Value.oneCell']) ?_)
        (try simp only [Exit.inBlock, Exit.then])
        obtain ⟨k0, k1, k2, k3, k4, k5, k6, k7⟩ := rec_cells (setRow_heap w11 w.heap.size _ noRec _ _ D11.out)
        refine bodyPost_ret (by simp [results, Try.results16, go_sem, k0, k1, k2, k3, k4, k5, k6, k7]; rfl) rfl ⟨below_setRow B11 (Nat.le_refl _) _, fun _ => rfl, fun x hx => ?_⟩
        rw [HD.out] at hx
        exact absurd hx (by simp [hq'.out])
  · have hm' : mayR n q.1 r.1 = false := by simpa using hm
    have HM := Lib.hid (encodeR_no HEN HFN (by omega) (by omega) hm')
    clear HEN HFN
    refine HM.out.mono ?_
    rintro e w11 ⟨rfl, b11⟩
    have hs10 : w.heap.size + 5 ≤ w10.heap.size := by omega
    have r11 := (b11.block (w.heap.size + 1) (by omega)).trans R10.out
    have t11 := (b11.block (w.heap.size + 1 + 1 + 1) (by omega)).trans T10.out
    have d11 := (b11.block w.heap.size (by omega)).trans D10.out
    have k11 := (b11.block (w.heap.size + 2) (by omega)).trans K10.out
    have kc : w11.cell? ⟨w.heap.size + 2, 0, none⟩ = some (.pointer (some ⟨w.heap.size + 1, 0, none⟩)) := by simp [World.cell?, k11]
    obtain ⟨c0, c1, c2⟩ := rd_cells r11
    have T11 := Lib.hid t11
    have D11 := Lib.hid d11
    have B11 := B10.trans (b11.mono B10.size)
    clear r11 t11 d11 k11
    cases hb : r.2.2 with
    | true =>
      rw [hb] at c2 HD
      go_wp2_with (refine wpList_store_row rfl _ _ _ rfl w.heap.size noRec rfl rfl _ _ D11.out (by kernel_rfl) rfl (by simp [noRec, recCells, noNum, Value.oneCell']) ?_)
      (try simp only [Exit.inBlock, Exit.then])
      obtain ⟨k0, k1, k2, k3, k4, k5, k6, k7⟩ := rec_cells (setRow_heap w11 w.heap.size _ noRec _ _ D11.out)
      refine bodyPost_ret (by simp [results, Try.results16, go_sem, k0, k1, k2, k3, k4, k5, k6, k7]; rfl) rfl ⟨below_setRow B11 (Nat.le_refl _) _, fun _ => rfl, fun x hx => ?_⟩
      rw [HD.out] at hx
      simp at hx
    | false =>
      rw [hb] at c2 HD
      go_wp2_with (refine wpList_store_row rfl _ _ _ rfl w.heap.size noRec rfl rfl _ _ D11.out (by kernel_rfl) rfl (by simp [noRec, recCells, noNum, Value.oneCell']) ?_)
      (try simp only [Exit.inBlock, Exit.then])
      obtain ⟨k0, k1, k2, k3, k4, k5, k6, k7⟩ := rec_cells (setRow_heap w11 w.heap.size _ noRec _ _ D11.out)
      refine bodyPost_ret (by simp [results, Try.results16, go_sem, k0, k1, k2, k3, k4, k5, k6, k7]; rfl) rfl ⟨below_setRow B11 (Nat.le_refl _) _, fun _ => rfl, fun x hx => ?_⟩
      rw [HD.out] at hx
      simp [hm'] at hx
end Go.Proofs.Ytalilifegclelaa
