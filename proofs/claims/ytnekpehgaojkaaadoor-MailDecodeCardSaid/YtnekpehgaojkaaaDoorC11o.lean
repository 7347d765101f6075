/- Lists of entries of one's own; what is read. (Made by wip/src/layer11.py of layer 10's texts.) -/
import Derived.Test.YtnekpehgaojkaaaDoorC11l
import Derived.Test.YtnekpehgaojkaaaDoorC3b
namespace Go.Proofs.YtnekpehgaojkaaaDoor
open Go.RowKit

theorem entVals_at : ∀ (es : List Ent) (j i : Nat) (h : j < es.length), i < 6 → (entVals es)[j * 6 + i]? = (entCells es[j])[i]?
  | x :: es, 0, i, h, hi => by
    have e : entVals (x :: es) = (entCells x).toList ++ entVals es := rfl
    rw [e, Nat.zero_mul, Nat.zero_add, List.getElem?_append_left (by simp [entCells]; omega)]
    simp
  | x :: es, j + 1, i, h, hi => by
    have e : entVals (x :: es) = (entCells x).toList ++ entVals es := rfl
    have e6 : (entCells x).toList.length = 6 := rfl
    rw [e, List.getElem?_append_right (by omega), e6, show (j + 1) * 6 + i - 6 = j * 6 + i by omega]
    exact entVals_at es j i (by simpa using h) hi
theorem entVals_len : ∀ (es : List Ent), (entVals es).length = es.length * 6
  | [] => rfl
  | x :: es => by
    have e : entVals (x :: es) = (entCells x).toList ++ entVals es := rfl
    have e6 : (entCells x).toList.length = 6 := rfl
    rw [e, List.length_append, e6, entVals_len es, List.length_cons]; omega
theorem ents_owned {B B' : Nat} {w : World} {v : Value} {es : List Ent} (h : w.ownsRow B 30 6 v es.length (entVals es)) : EntsAt B' w v es := by
  rcases h.2 with ⟨rfl, h0⟩ | ⟨g, cap, cur, rfl, hg, hh, hc1, hc2, hc3, hc4⟩
  · have : es = [] := List.eq_nil_of_length_eq_zero h0
    subst this
    exact ⟨none, 0, rfl, fun h => absurd rfl h⟩
  · refine ⟨_, cap, rfl, fun _ => ⟨g, 0, rfl, (Array.getElem?_eq_some_iff.1 hh).1, .inr (cells_no_bytes (by decide) hh), fun j hj => ?_⟩⟩
    have key : ∀ i, i < 6 → w.cell? ⟨g, 0 + j * 6 + i, none⟩ = (entCells es[j])[i]? := by
      intro i hi
      rw [← entVals_at es j i hj hi, ← hc4, List.getElem?_take_of_lt (by omega)]
      simp [World.cell?, hh]
    exact ⟨key 0 (by omega), key 1 (by omega), key 2 (by omega), key 3 (by omega), key 4 (by omega), key 5 (by omega)⟩
theorem rdEnt_ok (s : List UInt8) (a : Nat) (b : Bool) : EntOk (rdEnt s a b).1 := by
  intro x hx
  have h := getD_i64 (rdL_i64 1 a b : ∀ n ∈ (rdL s 1 a b).1, _)
  have h5 := getD_i64 (rdL_i64 5 (rdL s 1 a b).2.1 (rdL s 1 a b).2.2 : ∀ n ∈ (rdL s 5 (rdL s 1 a b).2.1 (rdL s 1 a b).2.2).1, _)
  simp only [Ent.nums, rdEnt, rdOrd, Ord.nums, List.mem_cons, List.not_mem_nil, or_false] at hx
  rcases hx with rfl | rfl | rfl | rfl | rfl | rfl
  · exact h _
  all_goals exact h5 _
theorem rdEnts_ok (s : List UInt8) : ∀ (k a : Nat) (b : Bool), EntsOk (rdEnts s k a b).1
  | 0, a, b => by intro x hx; simp [rdEnts] at hx
  | k + 1, a, true => by rw [rdEnts_bad]; intro x hx; simp at hx
  | k + 1, a, false => by
    rw [rdEnts_good]; intro x hx
    rcases List.mem_cons.1 hx with rfl | hx
    · exact rdEnt_ok s a false
    · exact rdEnts_ok s k _ _ x hx
theorem owns_le {B B' n sz : Nat} {e : TypeId} {w : World} {v : Value} {xs : List Value} (h : w.ownsRow B e sz v n xs) (hB : B' ≤ B) : w.ownsRow B' e sz v n xs := by
  refine ⟨h.1, h.2.imp_right ?_⟩
  rintro ⟨g, cap, cur, rfl, hg, rest⟩
  exact ⟨g, cap, cur, rfl, Nat.le_trans hB hg, rest⟩
theorem owns_below {B n sz : Nat} {e : TypeId} {w w' : World} {v : Value} {xs : List Value} (h : w.ownsRow B e sz v n xs) (hb : Below w.heap.size w w') : w'.ownsRow B e sz v n xs := by
  refine ⟨h.1, h.2.imp_right ?_⟩
  rintro ⟨g, cap, cur, rfl, hg, hh, rest⟩
  exact ⟨g, cap, cur, rfl, hg, (hb.block g (Array.getElem?_eq_some_iff.1 hh).1).trans hh, rest⟩
theorem row_row {B n sz g : Nat} {e t : TypeId} {w : World} {v : Value} {xs : List Value} {cs cur : Array Value} (h : w.ownsRow B e sz v n xs) (hg : w.heap[g]? = some (.cells cur t (0, 0))) (ht : e ≠ t) : (w.setRow g cs).ownsRow B e sz v n xs := by
  refine ⟨h.1, h.2.imp_right ?_⟩
  rintro ⟨g', cap, cur', rfl, hB, hh, rest⟩
  refine ⟨g', cap, cur', rfl, hB, ?_, rest⟩
  rw [setRow_other _ _ _ _ (by rintro rfl; rw [hg] at hh; injection hh with h1; injection h1 with _ h2; exact ht h2.symm)]
  exact hh
theorem rdEnts_pos {s : List UInt8} : ∀ (k a : Nat) (b : Bool), a ≤ s.length → (rdEnts s k a b).2.1 ≤ s.length
  | 0, a, b, h => by simpa [rdEnts] using h
  | k + 1, a, true, h => by rw [rdEnts_bad]; exact h
  | k + 1, a, false, h => by rw [rdEnts_good]; exact rdEnts_pos k _ _ (rdEnt_pos h).2.1
theorem rdEnts_len {s : List UInt8} : ∀ (k a : Nat) (b : Bool), a ≤ s.length → (rdEnts s k a b).1.length ≤ s.length - a + 1
  | 0, a, b, h => by simp [rdEnts]
  | k + 1, a, true, h => by rw [rdEnts_bad]; simp
  | k + 1, a, false, h => by
    rw [rdEnts_good]
    obtain ⟨p1, p2, p3⟩ := rdEnt_pos (b := false) h
    rw [List.length_cons]
    cases hb : (rdEnt s a false).2.2 with
    | true => rw [rdEnts_bad]; simp
    | false =>
      have := rdEnts_len k (rdEnt s a false).2.1 false p2
      have := p3 hb
      omega
theorem rdEntL_len {s : List UInt8} (a : Nat) (b : Bool) (h : a ≤ s.length) : (rdEntL s a b).1.length ≤ s.length + 1 := Nat.le_trans (rdEnts_len _ _ _ (rdL_pos 1 a b h).2.1) (by omega)
theorem rdEntL_pos {s : List UInt8} (a : Nat) (b : Bool) (h : a ≤ s.length) : (rdEntL s a b).2.1 ≤ s.length := rdEnts_pos _ _ _ (rdL_pos 1 a b h).2.1
theorem ents_nil (B : Nat) (w : World) : EntsAt B w (.slice none ([] : List Ent).length 0) [] := ⟨none, 0, rfl, fun h => absurd rfl h⟩
theorem putL_cons (n : Int) (ns : List Int) : putL (n :: ns) = Marks.put n ++ putL ns := rfl
theorem rdL_at : ∀ (ns : List Int) (pre rest : List UInt8), (∀ n ∈ ns, -9223372036854775808 ≤ n ∧ n ≤ 9223372036854775807) →
    rdL (pre ++ (putL ns ++ rest)) ns.length pre.length false = (ns, pre.length + (putL ns).length, false)
  | [], pre, rest, _ => by simp [rdL, putL]
  | n :: ns, pre, rest, h => by
    obtain ⟨h0, h1⟩ := h n (List.mem_cons_self ..)
    have e : pre ++ (putL (n :: ns) ++ rest) = pre ++ (Marks.put n ++ (putL ns ++ rest)) := by rw [putL_cons, List.append_assoc]
    have e2 : pre ++ (Marks.put n ++ (putL ns ++ rest)) = (pre ++ Marks.put n) ++ (putL ns ++ rest) := by rw [List.append_assoc]
    have hg := getI_at pre (putL ns ++ rest) n h0 h1
    have ih := rdL_at ns (pre ++ Marks.put n) rest (fun m hm => h m (List.mem_cons_of_mem _ hm))
    rw [e, List.length_cons, rdL_some hg, e2, ← List.length_append, ih]
    simp [putL_cons, Nat.add_assoc]
theorem rdEnt_at (x : Ent) (pre rest : List UInt8) (h : EntOk x) : rdEnt (pre ++ (putL x.nums ++ rest)) pre.length false = (x, pre.length + (putL x.nums).length, false) := by
  have e : pre ++ (putL x.nums ++ rest) = pre ++ (putL [x.epoch] ++ (putL x.ord.nums ++ rest)) := by
    rw [← List.append_assoc (putL [x.epoch]), ← putL_app]; rfl
  have e2 : pre ++ (putL [x.epoch] ++ (putL x.ord.nums ++ rest)) = (pre ++ putL [x.epoch]) ++ (putL x.ord.nums ++ rest) := by rw [List.append_assoc]
  have h1 := rdL_at [x.epoch] pre (putL x.ord.nums ++ rest) (fun n hn => h n (by simp at hn; subst hn; simp [Ent.nums]))
  have h2 := rdL_at x.ord.nums (pre ++ putL [x.epoch]) rest (fun n hn => h n (List.mem_cons_of_mem _ hn))
  have hl : x.ord.nums.length = 5 := rfl
  rw [List.length_singleton] at h1
  rw [hl, ← e2] at h2
  rw [e]
  unfold rdEnt
  dsimp only
  rw [h1]
  dsimp only
  rw [← List.length_append, h2]
  have e3 : putL x.nums = putL [x.epoch] ++ putL x.ord.nums := by rw [← putL_app]; rfl
  rw [e3]
  simp [Nat.add_assoc, rdOrd, Ord.nums]
theorem rdEnts_at : ∀ (es : List Ent) (pre rest : List UInt8), EntsOk es → rdEnts (pre ++ (entsL es ++ rest)) es.length pre.length false = (es, pre.length + (entsL es).length, false)
  | [], pre, rest, _ => by simp [rdEnts, entsL]
  | x :: es, pre, rest, h => by
    have e0 : entsL (x :: es) = putL x.nums ++ entsL es := rfl
    have e : pre ++ (entsL (x :: es) ++ rest) = pre ++ (putL x.nums ++ (entsL es ++ rest)) := by rw [e0, List.append_assoc]
    have e2 : pre ++ (putL x.nums ++ (entsL es ++ rest)) = (pre ++ putL x.nums) ++ (entsL es ++ rest) := by rw [List.append_assoc]
    have h1 := rdEnt_at x pre (entsL es ++ rest) (h x (List.mem_cons_self ..))
    have ih := rdEnts_at es (pre ++ putL x.nums) rest (fun y hy => h y (List.mem_cons_of_mem _ hy))
    rw [e, List.length_cons, rdEnts_good, h1, e2, ← List.length_append, ih]
    simp [e0, Nat.add_assoc]
theorem rdEntL_at (es : List Ent) (pre rest : List UInt8) (h : EntsOk es) (hl : es.length ≤ 1000000) : rdEntL (pre ++ (putL [(es.length : Int)] ++ (entsL es ++ rest))) pre.length false = (es, pre.length + (putL [(es.length : Int)] ++ entsL es).length, false) := by
  have h1 := rdL_at [(es.length : Int)] pre (entsL es ++ rest) (fun n hn => by simp at hn; subst hn; omega)
  have e2 : pre ++ (putL [(es.length : Int)] ++ (entsL es ++ rest)) = (pre ++ putL [(es.length : Int)]) ++ (entsL es ++ rest) := by rw [List.append_assoc]
  have h2 := rdEnts_at es (pre ++ putL [(es.length : Int)]) rest h
  rw [← e2] at h2
  rw [List.length_singleton] at h1
  unfold rdEntL
  rw [h1]
  simp only [List.getD_cons_zero, Int.toNat_natCast]
  rw [← List.length_append, h2]
  simp [Nat.add_assoc]
end Go.Proofs.YtnekpehgaojkaaaDoor
