/- records.Decode: the lists that were read are lists; plain parts. -/
import Derived.Test.YtalilifegclelaaC10n
namespace Go.Proofs.Ytalilifegclelaa
open Go.RowKit

theorem entVals_at : ∀ (es : List Ent) (j i : Nat) (h : j < es.length), i < 6 → (entVals es)[j * 6 + i]? = (entCells es[j])[i]?
  | x :: es, 0, i, h, hi => by
    have e : entVals (x :: es) = (entCells x).toList ++ entVals es := rfl
    rw [e, Nat.zero_mul, Nat.zero_add, List.getElem?_append_left (by simp [entCells]; omega)]
    simp
  | x :: es, j + 1, i, h, hi => by
    have e : entVals (x :: es) = (entCells x).toList ++ entVals es := rfl
    have e6 : (entCells x).toList.length = 6 := rfl
    rw [e, List.getElem?_append_right (by omega), e6, show (j + 1) * 6 + i - 6 = j * 6 + i by omega]
    exact entVals_at es j i (by simpa using h) hi
theorem entVals_len : ∀ (es : List Ent), (entVals es).length = es.length * 6
  | [] => rfl
  | x :: es => by
    have e : entVals (x :: es) = (entCells x).toList ++ entVals es := rfl
    have e6 : (entCells x).toList.length = 6 := rfl
    rw [e, List.length_append, e6, entVals_len es, List.length_cons]; omega
theorem sptVals_at : ∀ (es : List Spt) (j i : Nat) (h : j < es.length), i < 2 → (sptVals es)[j * 2 + i]? = (sptCells es[j])[i]?
  | x :: es, 0, i, h, hi => by
    have e : sptVals (x :: es) = (sptCells x).toList ++ sptVals es := rfl
    rw [e, Nat.zero_mul, Nat.zero_add, List.getElem?_append_left (by simp [sptCells]; omega)]
    simp
  | x :: es, j + 1, i, h, hi => by
    have e : sptVals (x :: es) = (sptCells x).toList ++ sptVals es := rfl
    have e6 : (sptCells x).toList.length = 2 := rfl
    rw [e, List.getElem?_append_right (by omega), e6, show (j + 1) * 2 + i - 2 = j * 2 + i by omega]
    exact sptVals_at es j i (by simpa using h) hi
theorem ents_owned {B B' : Nat} {w : World} {v : Value} {es : List Ent} (h : w.ownsRow B 30 6 v es.length (entVals es)) : EntsAt B' w v es := by
  rcases h.2 with ⟨rfl, h0⟩ | ⟨g, cap, cur, rfl, hg, hh, hc1, hc2, hc3, hc4⟩
  · have : es = [] := List.eq_nil_of_length_eq_zero h0
    subst this
    exact ⟨none, 0, rfl, fun h => absurd rfl h⟩
  · refine ⟨_, cap, rfl, fun _ => ⟨g, 0, rfl, (Array.getElem?_eq_some_iff.1 hh).1, .inr (cells_no_bytes (by decide) hh), fun j hj => ?_⟩⟩
    have key : ∀ i, i < 6 → w.cell? ⟨g, 0 + j * 6 + i, none⟩ = (entCells es[j])[i]? := by
      intro i hi
      rw [← entVals_at es j i hj hi, ← hc4, List.getElem?_take_of_lt (by omega)]
      simp [World.cell?, hh]
    exact ⟨key 0 (by omega), key 1 (by omega), key 2 (by omega), key 3 (by omega), key 4 (by omega), key 5 (by omega)⟩
theorem spts_owned {B B' : Nat} {w : World} {v : Value} {es : List Spt} (h : w.ownsRow B 32 2 v es.length (sptVals es)) : SptsAt B' w v es := by
  rcases h.2 with ⟨rfl, h0⟩ | ⟨g, cap, cur, rfl, hg, hh, hc1, hc2, hc3, hc4⟩
  · have : es = [] := List.eq_nil_of_length_eq_zero h0
    subst this
    exact ⟨none, 0, rfl, fun h => absurd rfl h⟩
  · refine ⟨_, cap, rfl, fun _ => ⟨g, 0, rfl, (Array.getElem?_eq_some_iff.1 hh).1, .inr (cells_no_bytes (by decide) hh), fun j hj => ?_⟩⟩
    have key : ∀ i, i < 2 → w.cell? ⟨g, 0 + j * 2 + i, none⟩ = (sptCells es[j])[i]? := by
      intro i hi
      rw [← sptVals_at es j i hj hi, ← hc4, List.getElem?_take_of_lt (by omega)]
      simp [World.cell?, hh]
    exact ⟨key 0 (by omega), key 1 (by omega)⟩
def rdNum (xs : List Int) : RNum := ⟨xs.getD 0 0, xs.getD 1 0, xs.getD 2 0, xs.getD 3 0, xs.getD 4 0, xs.getD 5 0⟩
theorem rdNum_ok (s : List UInt8) (k a : Nat) (b : Bool) : RNumOk (rdNum (rdL s k a b).1) := by
  intro x hx
  have h := getD_i64 (rdL_i64 k a b : ∀ n ∈ (rdL s k a b).1, _)
  simp only [RNum.nums, rdNum, List.mem_cons, List.not_mem_nil, or_false] at hx
  rcases hx with rfl | rfl | rfl | rfl | rfl | rfl <;> exact h _
theorem rdEnt_ok (s : List UInt8) (a : Nat) (b : Bool) : EntOk (rdEnt s a b).1 := by
  intro x hx
  have h := getD_i64 (rdL_i64 1 a b : ∀ n ∈ (rdL s 1 a b).1, _)
  have h5 := getD_i64 (rdL_i64 5 (rdL s 1 a b).2.1 (rdL s 1 a b).2.2 : ∀ n ∈ (rdL s 5 (rdL s 1 a b).2.1 (rdL s 1 a b).2.2).1, _)
  simp only [Ent.nums, rdEnt, rdOrd, Ord.nums, List.mem_cons, List.not_mem_nil, or_false] at hx
  rcases hx with rfl | rfl | rfl | rfl | rfl | rfl
  · exact h _
  all_goals exact h5 _
theorem rdEnts_ok (s : List UInt8) : ∀ (k a : Nat) (b : Bool), EntsOk (rdEnts s k a b).1
  | 0, a, b => by intro x hx; simp [rdEnts] at hx
  | k + 1, a, true => by rw [rdEnts_bad]; intro x hx; simp at hx
  | k + 1, a, false => by
    rw [rdEnts_good]; intro x hx
    rcases List.mem_cons.1 hx with rfl | hx
    · exact rdEnt_ok s a false
    · exact rdEnts_ok s k _ _ x hx
theorem rdSpt_ok (s : List UInt8) (a : Nat) (b : Bool) : SptOk (rdSpt s a b).1 := by
  intro x hx
  have h := getD_i64 (rdL_i64 2 a b : ∀ n ∈ (rdL s 2 a b).1, _)
  simp only [Spt.nums, rdSpt, List.mem_cons, List.not_mem_nil, or_false] at hx
  rcases hx with rfl | rfl <;> exact h _
theorem rdSpts_ok (s : List UInt8) : ∀ (k a : Nat) (b : Bool), SptsOk (rdSpts s k a b).1
  | 0, a, b => by intro x hx; simp [rdSpts] at hx
  | k + 1, a, true => by rw [rdSpts_bad]; intro x hx; simp at hx
  | k + 1, a, false => by
    rw [rdSpts_good]; intro x hx
    rcases List.mem_cons.1 hx with rfl | hx
    · exact rdSpt_ok s a false
    · exact rdSpts_ok s k _ _ x hx
/-- What is read of some bytes; is something not there. -/
def rdRec (s : List UInt8) : (RNum × List Ent × List Spt) × Bool :=
  let p := rdL s 6 0 false
  let q := rdEntL s p.2.1 p.2.2
  let r := rdSptL s q.2.1 q.2.2
  ((rdNum p.1, q.1, r.1), r.2.2)
/-- The record of some bytes. -/
def decR (s : List UInt8) : Option (RNum × List Ent × List Spt) :=
  let x := rdRec s
  if x.2 = false ∧ mayR x.1.1 x.1.2.1 x.1.2.2 = true ∧ encR x.1.1 x.1.2.1 x.1.2.2 = s then some x.1 else none
end Go.Proofs.Ytalilifegclelaa
