/- mail.Decode: the plain part. (Printed by wip/src/XC11p.py.) -/
import Derived.Test.YtnekpehgaojkaaaDoorC11i
import Derived.Test.YtnekpehgaojkaaaDoorC11l
import Derived.Test.YtnekpehgaojkaaaDoorC11o
namespace Go.Proofs.YtnekpehgaojkaaaDoor
open Go.RowKit

def noM : MNum := ⟨0, 0, 0, 0, 0, 0, 0, 0, 0, noOrd, ⟨0, 0, 0⟩⟩
def mkM (xs : List Int) (o : Ord) (ys : List Int) : MNum := ⟨xs.getD 0 0, xs.getD 1 0, xs.getD 2 0, xs.getD 3 0, xs.getD 4 0, xs.getD 5 0, xs.getD 6 0, xs.getD 7 0, xs.getD 8 0, o, ⟨ys.getD 0 0, ys.getD 1 0, ys.getD 2 0⟩⟩
def noneM : Array Value := mailCells noM (.slice none 0 0)
theorem m_put1 (ve : Value) : ∀ (xs : List Int), xs.length ≤ 9 → putAt (mailCells noM ve) [0, 1, 2, 3, 4, 5, 6, 7, 8] xs = mailCells (mkM xs noOrd []) ve
  | [], _ => by simp [putAt, mailCells, mkM, noM, noOrd]
  | [_], _ => by simp [putAt, mailCells, mkM, noM, noOrd]
  | [_, _], _ => by simp [putAt, mailCells, mkM, noM, noOrd]
  | [_, _, _], _ => by simp [putAt, mailCells, mkM, noM, noOrd]
  | [_, _, _, _], _ => by simp [putAt, mailCells, mkM, noM, noOrd]
  | [_, _, _, _, _], _ => by simp [putAt, mailCells, mkM, noM, noOrd]
  | [_, _, _, _, _, _], _ => by simp [putAt, mailCells, mkM, noM, noOrd]
  | [_, _, _, _, _, _, _], _ => by simp [putAt, mailCells, mkM, noM, noOrd]
  | [_, _, _, _, _, _, _, _], _ => by simp [putAt, mailCells, mkM, noM, noOrd]
  | [_, _, _, _, _, _, _, _, _], _ => by simp [putAt, mailCells, mkM, noM, noOrd]
  | _ :: _ :: _ :: _ :: _ :: _ :: _ :: _ :: _ :: _ :: _, h => by simp at h
theorem m_put2 (xs : List Int) (o : Ord) (ve : Value) : ∀ (ys : List Int), ys.length ≤ 3 → putAt (mailCells (mkM xs o []) ve) [15, 16, 17] ys = mailCells (mkM xs o ys) ve
  | [], _ => by simp [putAt, mailCells, mkM]
  | [_], _ => by simp [putAt, mailCells, mkM]
  | [_, _], _ => by simp [putAt, mailCells, mkM]
  | [_, _, _], _ => by simp [putAt, mailCells, mkM]
  | _ :: _ :: _ :: _ :: _, h => by simp at h
theorem m_set9 (xs : List Int) (ve v : Value) : (mailCells (mkM xs noOrd []) ve).setIfInBounds 9 v = mailCells (mkM xs noOrd []) v := by simp [mailCells]
theorem m_row (xs : List Int) (o : Ord) (ve : Value) : (List.take (10 + 0) (mailCells (mkM xs noOrd []) ve).toList ++ (ordCells o).toList ++ List.drop (10 + 0 + (ordCells o).toList.length) (mailCells (mkM xs noOrd []) ve).toList).toArray = mailCells (mkM xs o []) ve := rfl
theorem mkM_ok (s : List UInt8) (k a k1 a1 k2 a2 : Nat) (b b1 b2 : Bool) : MNumOk (mkM (rdL s k a b).1 (rdOrd (rdL s k1 a1 b1).1) (rdL s k2 a2 b2).1) := by
  have h1 := getD_i64 (rdL_i64 k a b : ∀ n ∈ (rdL s k a b).1, _)
  have h2 := getD_i64 (rdL_i64 k1 a1 b1 : ∀ n ∈ (rdL s k1 a1 b1).1, _)
  have h3 := getD_i64 (rdL_i64 k2 a2 b2 : ∀ n ∈ (rdL s k2 a2 b2).1, _)
  refine ⟨?_, ?_, ?_⟩
  · intro x hx
    simp only [MNum.nums, mkM, List.mem_cons, List.not_mem_nil, or_false] at hx
    rcases hx with rfl | rfl | rfl | rfl | rfl | rfl | rfl | rfl | rfl <;> exact h1 _
  · intro x hx
    simp only [Ord.nums, mkM, rdOrd, List.mem_cons, List.not_mem_nil, or_false] at hx
    rcases hx with rfl | rfl | rfl | rfl | rfl <;> exact h2 _
  · intro x hx
    simp only [Ans.nums, mkM, List.mem_cons, List.not_mem_nil, or_false] at hx
    rcases hx with rfl | rfl | rfl <;> exact h3 _
theorem owns_wrote2 {B R T n sz : Nat} {e : TypeId} {w w' : World} {v : Value} {xs : List Value} (h : w.ownsRow B e sz v n xs) (hW : Wrote R T w w') (hR : R < B) (hT : T < B) : w'.ownsRow B e sz v n xs := by
  refine ⟨h.1, h.2.imp_right ?_⟩
  rintro ⟨g, cap, cur, rfl, hg, hh, rest⟩
  exact ⟨g, cap, cur, rfl, hg, (hW.other g (Array.getElem?_eq_some_iff.1 hh).1 (by omega) (by omega)).trans hh, rest⟩
/-- What is read of some bytes; is something not there. -/
def rdM (s : List UInt8) : (MNum × List Ent) × Bool :=
  let p := rdL s 9 0 false
  let q := rdEntL s p.2.1 p.2.2
  let o := rdL s 5 q.2.1 q.2.2
  let y := rdL s 3 o.2.1 o.2.2
  ((mkM p.1 (rdOrd o.1) y.1, q.1), y.2.2)
/-- The message of some bytes. -/
def decM (s : List UInt8) (n : Int) : Option (MNum × List Ent) :=
  let x := rdM s
  if x.2 = false ∧ mayM x.1.1 x.1.2 n = true ∧ encM x.1.1 x.1.2 = s then some x.1 else none
theorem decM_of {s : List UInt8} {n : Int} {p o y : List Int × Nat × Bool} {q : List Ent × Nat × Bool} (h1 : rdL s 9 0 false = p) (h2 : rdEntL s p.2.1 p.2.2 = q) (h3 : rdL s 5 q.2.1 q.2.2 = o) (h4 : rdL s 3 o.2.1 o.2.2 = y) :
    decM s n = if y.2.2 = false ∧ mayM (mkM p.1 (rdOrd o.1) y.1) q.1 n = true ∧ encM (mkM p.1 (rdOrd o.1) y.1) q.1 = s then some (mkM p.1 (rdOrd o.1) y.1, q.1) else none := by
  subst h1 h2 h3 h4
  rfl
theorem dec_encM {n : Int} {m : MNum} {es : List Ent} (hm : MNumOk m) (he : EntsOk es) (h : mayM m es n = true) : decM (encM m es) n = some (m, es) := by
  have hl := mayM_small h
  have h1 := rdL_at m.nums [] (putL [(es.length : Int)] ++ (entsL es ++ (putL m.ord.nums ++ (putL m.ans.nums ++ [])))) hm.1
  have h2 := rdEntL_at es (putL m.nums) (putL m.ord.nums ++ (putL m.ans.nums ++ [])) he (by omega)
  have h3 := rdL_at m.ord.nums (putL m.nums ++ (putL [(es.length : Int)] ++ entsL es)) (putL m.ans.nums ++ []) hm.2.1
  have h4 := rdL_at m.ans.nums (putL m.nums ++ (putL [(es.length : Int)] ++ entsL es) ++ putL m.ord.nums) [] hm.2.2
  have e1 : [] ++ (putL m.nums ++ (putL [(es.length : Int)] ++ (entsL es ++ (putL m.ord.nums ++ (putL m.ans.nums ++ []))))) = encM m es := by unfold encM; simp
  have e2 : putL m.nums ++ (putL [(es.length : Int)] ++ (entsL es ++ (putL m.ord.nums ++ (putL m.ans.nums ++ [])))) = encM m es := by unfold encM; simp
  have e3 : (putL m.nums ++ (putL [(es.length : Int)] ++ entsL es)) ++ (putL m.ord.nums ++ (putL m.ans.nums ++ [])) = encM m es := by unfold encM; simp
  have e4 : (putL m.nums ++ (putL [(es.length : Int)] ++ entsL es) ++ putL m.ord.nums) ++ (putL m.ans.nums ++ []) = encM m es := by unfold encM; simp
  rw [e1] at h1
  rw [e2] at h2
  rw [e3] at h3
  rw [e4] at h4
  have hl9 : m.nums.length = 9 := rfl
  have hl5 : m.ord.nums.length = 5 := rfl
  have hl3 : m.ans.nums.length = 3 := rfl
  rw [hl9, List.length_nil, Nat.zero_add] at h1
  rw [hl5] at h3
  rw [hl3] at h4
  rw [← List.length_append] at h2
  rw [← List.length_append] at h3
  have hk : mkM m.nums (rdOrd m.ord.nums) m.ans.nums = m := rfl
  rw [decM_of h1 h2 h3 h4]
  dsimp only
  rw [hk, if_pos ⟨rfl, h, rfl⟩]
theorem decM_some {s : List UInt8} {n : Int} {x : MNum × List Ent} (h : decM s n = some x) : mayM x.1 x.2 n = true ∧ encM x.1 x.2 = s ∧ MNumOk x.1 ∧ EntsOk x.2 := by
  rw [decM_of rfl rfl rfl rfl] at h
  split at h
  · rename_i h1
    cases h
    exact ⟨h1.2.1, h1.2.2, mkM_ok _ _ _ _ _ _ _ _ _ _, rdEnts_ok _ _ _ _⟩
  · cases h
end Go.Proofs.YtnekpehgaojkaaaDoor
