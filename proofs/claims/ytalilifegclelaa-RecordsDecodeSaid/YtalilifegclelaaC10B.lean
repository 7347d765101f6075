/- What is encoded is decoded, plain: records. -/
import Derived.Test.YtalilifegclelaaC10o
import Derived.Test.YtalilifegclelaaC3b
namespace Go.Proofs.Ytalilifegclelaa
open Go.RowKit

theorem putL_cons (n : Int) (ns : List Int) : putL (n :: ns) = Marks.put n ++ putL ns := rfl
theorem rdL_at : ∀ (ns : List Int) (pre rest : List UInt8), (∀ n ∈ ns, -9223372036854775808 ≤ n ∧ n ≤ 9223372036854775807) →
    rdL (pre ++ (putL ns ++ rest)) ns.length pre.length false = (ns, pre.length + (putL ns).length, false)
  | [], pre, rest, _ => by simp [rdL, putL]
  | n :: ns, pre, rest, h => by
    obtain ⟨h0, h1⟩ := h n (List.mem_cons_self ..)
    have e : pre ++ (putL (n :: ns) ++ rest) = pre ++ (Marks.put n ++ (putL ns ++ rest)) := by rw [putL_cons, List.append_assoc]
    have e2 : pre ++ (Marks.put n ++ (putL ns ++ rest)) = (pre ++ Marks.put n) ++ (putL ns ++ rest) := by rw [List.append_assoc]
    have hg := getI_at pre (putL ns ++ rest) n h0 h1
    have ih := rdL_at ns (pre ++ Marks.put n) rest (fun m hm => h m (List.mem_cons_of_mem _ hm))
    rw [e, List.length_cons, rdL_some hg, e2, ← List.length_append, ih]
    simp [putL_cons, Nat.add_assoc]
theorem rdEnt_at (x : Ent) (pre rest : List UInt8) (h : EntOk x) : rdEnt (pre ++ (putL x.nums ++ rest)) pre.length false = (x, pre.length + (putL x.nums).length, false) := by
  have e : pre ++ (putL x.nums ++ rest) = pre ++ (putL [x.epoch] ++ (putL x.ord.nums ++ rest)) := by
    rw [← List.append_assoc (putL [x.epoch]), ← putL_app]; rfl
  have e2 : pre ++ (putL [x.epoch] ++ (putL x.ord.nums ++ rest)) = (pre ++ putL [x.epoch]) ++ (putL x.ord.nums ++ rest) := by rw [List.append_assoc]
  have h1 := rdL_at [x.epoch] pre (putL x.ord.nums ++ rest) (fun n hn => h n (by simp at hn; subst hn; simp [Ent.nums]))
  have h2 := rdL_at x.ord.nums (pre ++ putL [x.epoch]) rest (fun n hn => h n (List.mem_cons_of_mem _ hn))
  have hl : x.ord.nums.length = 5 := rfl
  rw [List.length_singleton] at h1
  rw [hl, ← e2] at h2
  rw [e]
  unfold rdEnt
  dsimp only
  rw [h1]
  dsimp only
  rw [← List.length_append, h2]
  have e3 : putL x.nums = putL [x.epoch] ++ putL x.ord.nums := by rw [← putL_app]; rfl
  rw [e3]
  simp [Nat.add_assoc, rdOrd, Ord.nums]
theorem rdSpt_at (x : Spt) (pre rest : List UInt8) (h : SptOk x) : rdSpt (pre ++ (putL x.nums ++ rest)) pre.length false = (x, pre.length + (putL x.nums).length, false) := by
  have h2 := rdL_at x.nums pre rest h
  have hl : x.nums.length = 2 := rfl
  rw [hl] at h2
  unfold rdSpt
  rw [h2]
  simp [Spt.nums]
theorem rdEnts_at : ∀ (es : List Ent) (pre rest : List UInt8), EntsOk es → rdEnts (pre ++ (entsL es ++ rest)) es.length pre.length false = (es, pre.length + (entsL es).length, false)
  | [], pre, rest, _ => by simp [rdEnts, entsL]
  | x :: es, pre, rest, h => by
    have e0 : entsL (x :: es) = putL x.nums ++ entsL es := rfl
    have e : pre ++ (entsL (x :: es) ++ rest) = pre ++ (putL x.nums ++ (entsL es ++ rest)) := by rw [e0, List.append_assoc]
    have e2 : pre ++ (putL x.nums ++ (entsL es ++ rest)) = (pre ++ putL x.nums) ++ (entsL es ++ rest) := by rw [List.append_assoc]
    have h1 := rdEnt_at x pre (entsL es ++ rest) (h x (List.mem_cons_self ..))
    have ih := rdEnts_at es (pre ++ putL x.nums) rest (fun y hy => h y (List.mem_cons_of_mem _ hy))
    rw [e, List.length_cons, rdEnts_good, h1, e2, ← List.length_append, ih]
    simp [e0, Nat.add_assoc]
theorem rdSpts_at : ∀ (es : List Spt) (pre rest : List UInt8), SptsOk es → rdSpts (pre ++ (sptsL es ++ rest)) es.length pre.length false = (es, pre.length + (sptsL es).length, false)
  | [], pre, rest, _ => by simp [rdSpts, sptsL]
  | x :: es, pre, rest, h => by
    have e0 : sptsL (x :: es) = putL x.nums ++ sptsL es := rfl
    have e : pre ++ (sptsL (x :: es) ++ rest) = pre ++ (putL x.nums ++ (sptsL es ++ rest)) := by rw [e0, List.append_assoc]
    have e2 : pre ++ (putL x.nums ++ (sptsL es ++ rest)) = (pre ++ putL x.nums) ++ (sptsL es ++ rest) := by rw [List.append_assoc]
    have h1 := rdSpt_at x pre (sptsL es ++ rest) (h x (List.mem_cons_self ..))
    have ih := rdSpts_at es (pre ++ putL x.nums) rest (fun y hy => h y (List.mem_cons_of_mem _ hy))
    rw [e, List.length_cons, rdSpts_good, h1, e2, ← List.length_append, ih]
    simp [e0, Nat.add_assoc]
theorem rdEntL_at (es : List Ent) (pre rest : List UInt8) (h : EntsOk es) (hl : es.length ≤ 1000000) : rdEntL (pre ++ (putL [(es.length : Int)] ++ (entsL es ++ rest))) pre.length false = (es, pre.length + (putL [(es.length : Int)] ++ entsL es).length, false) := by
  have h1 := rdL_at [(es.length : Int)] pre (entsL es ++ rest) (fun n hn => by simp at hn; subst hn; omega)
  have e2 : pre ++ (putL [(es.length : Int)] ++ (entsL es ++ rest)) = (pre ++ putL [(es.length : Int)]) ++ (entsL es ++ rest) := by rw [List.append_assoc]
  have h2 := rdEnts_at es (pre ++ putL [(es.length : Int)]) rest h
  rw [← e2] at h2
  rw [List.length_singleton] at h1
  unfold rdEntL
  rw [h1]
  simp only [List.getD_cons_zero, Int.toNat_natCast]
  rw [← List.length_append, h2]
  simp [Nat.add_assoc]
theorem rdSptL_at (es : List Spt) (pre rest : List UInt8) (h : SptsOk es) (hl : es.length ≤ 1000000) : rdSptL (pre ++ (putL [(es.length : Int)] ++ (sptsL es ++ rest))) pre.length false = (es, pre.length + (putL [(es.length : Int)] ++ sptsL es).length, false) := by
  have h1 := rdL_at [(es.length : Int)] pre (sptsL es ++ rest) (fun n hn => by simp at hn; subst hn; omega)
  have e2 : pre ++ (putL [(es.length : Int)] ++ (sptsL es ++ rest)) = (pre ++ putL [(es.length : Int)]) ++ (sptsL es ++ rest) := by rw [List.append_assoc]
  have h2 := rdSpts_at es (pre ++ putL [(es.length : Int)]) rest h
  rw [← e2] at h2
  rw [List.length_singleton] at h1
  unfold rdSptL
  rw [h1]
  simp only [List.getD_cons_zero, Int.toNat_natCast]
  rw [← List.length_append, h2]
  simp [Nat.add_assoc]
theorem dec_enc {n : RNum} {es : List Ent} {fs : List Spt} (hn : RNumOk n) (he : EntsOk es) (hf : SptsOk fs) (h : mayR n es fs = true) : decR (encR n es fs) = some (n, es, fs) := by
  obtain ⟨hl, hlf⟩ := may_small h
  have h1 := rdL_at n.nums [] (putL [(es.length : Int)] ++ (entsL es ++ (putL [(fs.length : Int)] ++ (sptsL fs ++ [])))) hn
  have h2 := rdEntL_at es (putL n.nums) (putL [(fs.length : Int)] ++ (sptsL fs ++ [])) he (by omega)
  have h3 := rdSptL_at fs (putL n.nums ++ (putL [(es.length : Int)] ++ entsL es)) [] hf (by omega)
  have e1 : [] ++ (putL n.nums ++ (putL [(es.length : Int)] ++ (entsL es ++ (putL [(fs.length : Int)] ++ (sptsL fs ++ []))))) = encR n es fs := by unfold encR; simp
  have e2 : putL n.nums ++ (putL [(es.length : Int)] ++ (entsL es ++ (putL [(fs.length : Int)] ++ (sptsL fs ++ [])))) = encR n es fs := by unfold encR; simp
  have e3 : (putL n.nums ++ (putL [(es.length : Int)] ++ entsL es)) ++ (putL [(fs.length : Int)] ++ (sptsL fs ++ [])) = encR n es fs := by unfold encR; simp
  rw [e1] at h1
  rw [e2] at h2
  rw [e3] at h3
  have hl6 : n.nums.length = 6 := rfl
  rw [hl6, List.length_nil, Nat.zero_add] at h1
  have hrec : rdRec (encR n es fs) = ((n, es, fs), false) := by
    unfold rdRec
    simp only [h1, h2]
    rw [← List.length_append, h3]
    simp [rdNum, RNum.nums]
  unfold decR
  rw [hrec]
  simp [h]
theorem decR_some {s : List UInt8} {x : RNum × List Ent × List Spt} (h : decR s = some x) : mayR x.1 x.2.1 x.2.2 = true ∧ encR x.1 x.2.1 x.2.2 = s := by
  unfold decR at h
  dsimp only at h
  split at h
  · rename_i h1
    cases h
    exact ⟨h1.2.1, h1.2.2⟩
  · cases h
theorem decR_ok {s : List UInt8} {x : RNum × List Ent × List Spt} (h : decR s = some x) : RNumOk x.1 ∧ EntsOk x.2.1 ∧ SptsOk x.2.2 := by
  unfold decR at h
  dsimp only at h
  split at h
  · cases h
    exact ⟨rdNum_ok _ _ _ _, rdEnts_ok _ _ _ _, rdSpts_ok _ _ _ _⟩
  · cases h
end Go.Proofs.Ytalilifegclelaa
