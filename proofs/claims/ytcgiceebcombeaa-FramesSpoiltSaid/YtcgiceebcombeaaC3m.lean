/- A frame of which one byte is another one. Plain. -/
import Derived.Test.YtcgiceebcombeaaC3k
import Derived.Laws.BitsAllLaws
import Derived.Laws.IdiomStrings
namespace Go.Proofs.Ytcgiceebcombeaa
open Go.RowKit

theorem wide_zero {y : UInt8} (h : Crc.wide y = 0#32) : y = 0 := by
  have h1 := congrArg BitVec.toNat h
  have h2 := y.toNat_lt
  simp only [Crc.wide, BitVec.toNat_ofNat] at h1
  apply UInt8.toNat_inj.1
  show y.toNat = 0
  omega
/-- One byte that is another one makes another check number. -/
theorem crc_set (l : List UInt8) (j : Nat) (hj : j < l.length) (y : UInt8) (hy : y ≠ 0) : Crc.sum (l.set j (l[j] ^^^ y)) ≠ Crc.sum l := by
  intro h
  rw [Crc.sum_eq_iff, Crc.fwd_set l _ j hj y] at h
  have h1 : Crc.steps (8 * (l.length - j)) (Crc.wide y) = 0#32 := by
    have := congrArg (fun r => Crc.fwd (~~~0#32) l ^^^ r) h
    simp only [← BitVec.xor_assoc, BitVec.xor_self, BitVec.zero_xor] at this
    exact this
  rw [← Crc.steps_zero (8 * (l.length - j))] at h1
  exact hy (wide_zero (Crc.steps_inj h1))
theorem set_at (x y : List UInt8) (i : Nat) (v : UInt8) : (x ++ y).set (x.length + i) v = x ++ y.set i v := by
  induction x with
  | nil => simp
  | cons a x ih =>
    rw [List.length_cons, show x.length + 1 + i = x.length + i + 1 by omega, List.cons_append, List.set_cons_succ, ih]; rfl
theorem set_in (x y : List UInt8) (i : Nat) (hi : i < x.length) (v : UInt8) : (x ++ y).set i v = x.set i v ++ y := by
  rw [List.set_append, if_pos hi]
theorem get_at (x y : List UInt8) (i : Nat) (h : x.length + i < (x ++ y).length) : (x ++ y)[x.length + i] = y[i]'(by rw [List.length_append] at h; omega) := by
  rw [List.getElem_append_right (by omega)]
  congr 1
  omega
theorem xor_ne {a y : UInt8} (hy : y ≠ 0) : a ^^^ y ≠ a := by
  intro h
  apply hy
  have := congrArg (fun z => a ^^^ z) h
  simpa [← UInt8.xor_assoc] using this
/-- Where the k-th frame's check number stands. -/
def fromF (ts : List ByteArray) (k : Nat) (hk : k < ts.length) : Nat := (allF (ts.take k)).length + (Marks.put (ts[k].size : Nat)).length
theorem from_end (ts : List ByteArray) (k : Nat) (hk : k < ts.length) : (allF (ts.take (k + 1))).length = fromF ts k hk + 4 + ts[k].size := by
  unfold fromF
  rw [all_take ts k hk, List.length_append, frame_len, bytes_len]
  omega
theorem from_lt (ts : List ByteArray) (k : Nat) (hk : k < ts.length) : fromF ts k hk + 4 + ts[k].size ≤ (allF ts).length := by
  obtain ⟨y, hy⟩ := all_part ts k hk
  rw [hy, List.length_append, List.length_append, frame_len, bytes_len]
  unfold fromF
  omega
theorem spoilt_whole {ts : List ByteArray} (hL : Little ts) (k i : Nat) (hk : k < ts.length) (hi : i < 4 + ts[k].size) (y : UInt8) (hy : y ≠ 0) (hlt : fromF ts k hk + i < (allF ts).length) :
    WholeL ((allF ts).set (fromF ts k hk + i) ((allF ts)[fromF ts k hk + i] ^^^ y)) ((ts.take k).map fun t => t.data.toList) (allF (ts.take k)).length := by
  obtain ⟨z, hz⟩ := all_part ts k hk
  have h8 := hL _ (List.getElem_mem hk)
  generalize hX : allF (ts.take k) = X at *
  have hF : fromF ts k hk = X.length + (Marks.put (ts[k].size : Nat)).length := by unfold fromF; rw [hX]
  have hps : ts[k].data.toList.length = ts[k].size := bytes_len _
  generalize ts[k].data.toList = p at *
  rw [← hps] at hF hi h8
  generalize hM : Marks.put (p.length : Nat) = M at *
  have hfr : frameL p = M ++ (chkL (M ++ p) ++ p) := by unfold frameL; rw [hM, List.append_assoc]
  have hA : allF ts = (X ++ M) ++ (chkL (M ++ p) ++ (p ++ z)) := by rw [hz, hfr]; simp only [List.append_assoc]
  have hch : ∀ r, Chain (X ++ r) 0 ((ts.take k).map fun t => t.data.toList) X.length := by
    intro r
    have := chain_frames (ts.take k) (little_take hL k) [] r
    rw [List.nil_append, List.length_nil, Nat.zero_add, hX] at this
    exact this
  have hFl : fromF ts k hk = (X ++ M).length := by rw [hF, List.length_append]
  have hset : ∃ c' p' : List UInt8, c'.length = 4 ∧ p'.length = p.length ∧ chkL (M ++ p') ≠ c' ∧ (allF ts).set (fromF ts k hk + i) ((allF ts)[fromF ts k hk + i] ^^^ y) = (X ++ M) ++ (c' ++ (p' ++ z)) := by
    by_cases h4 : i < 4
    · have hi4 : i < (chkL (M ++ p)).length := h4
      refine ⟨(chkL (M ++ p)).set i ((chkL (M ++ p))[i] ^^^ y), p, by rw [List.length_set]; rfl, rfl, ?_, ?_⟩
      · intro h
        have h1 := congrArg (fun l => l[i]?) h
        simp only [List.getElem?_set_self hi4, List.getElem?_eq_getElem hi4, Option.some.injEq] at h1
        exact xor_ne hy h1.symm
      · simp only [hA, hFl]
        rw [set_at, set_in _ _ _ hi4, get_at]
        rw [List.getElem_append_left hi4]
    · obtain ⟨j, rfl⟩ : ∃ j, i = 4 + j := ⟨i - 4, by omega⟩
      have hj : j < p.length := by omega
      refine ⟨chkL (M ++ p), p.set j (p[j] ^^^ y), rfl, by rw [List.length_set], ?_, ?_⟩
      · intro h
        rw [chk_iff, ← set_at] at h
        have h2 : (M ++ p)[M.length + j]'(by rw [List.length_append]; omega) = p[j] := get_at M p j _
        rw [← h2] at h
        exact crc_set _ _ (by rw [List.length_append]; omega) y hy h
      · simp only [hA, hFl]
        have e4 : 4 + j = (chkL (M ++ p)).length + j := rfl
        simp only [e4]
        rw [set_at, set_at, set_in _ _ _ hj, get_at, get_at]
        rw [List.getElem_append_left hj]
  obtain ⟨c', p', hc', hp', hne, hs⟩ := hset
  rw [hs, List.append_assoc]
  refine ⟨hch _, ?_⟩
  have := next_at X z c' p' hc' (by omega)
  rw [hp', hM, if_neg hne] at this
  exact this
end Go.Proofs.Ytcgiceebcombeaa
