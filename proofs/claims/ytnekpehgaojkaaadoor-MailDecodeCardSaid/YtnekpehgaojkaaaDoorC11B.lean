/- The plain law of the reference's May. -/
import Derived.Test.YtnekpehgaojkaaaDoorC11A
namespace Go.Proofs.YtnekpehgaojkaaaDoor
open Go.RowKit

def fS (m : MNum) : Bool := within m.stream 0 3 && !(decide (m.kind = 7) && !decide (m.stream = 0))
def fE (m : MNum) : Bool := if (bitsOf m.kind).e then within m.epoch (if m.kind = 3 then 0 else 1) 1048576 else decide (m.epoch = 0)
def fV (m : MNum) : Bool := if (bitsOf m.kind).v then within m.view 0 1048576 else decide (m.view = 0)
def fB (m : MNum) : Bool := if (bitsOf m.kind).b then within m.base 0 64 else decide (m.base = 0)
def fL (m : MNum) : Bool := if (bitsOf m.kind).l then within m.length 0 64 else decide (m.length = 0)
def fT (m : MNum) : Bool := within m.stamp 0 1073741824 && ((bitsOf m.kind).t || decide (m.stamp = 0))
def fN (m : MNum) (es : List Ent) : Bool := if (bitsOf m.kind).n then decide ((es.length : Int) ≤ 64 - m.base) && allGood m.stream es else decide (es.length = 0)
def fO (m : MNum) : Bool := if (bitsOf m.kind).o then mayB m.ord else ordZ m.ord
def fA (m : MNum) : Bool := if (bitsOf m.kind).a then toldB m.ans else ansZ m.ans
def headR (m : MNum) (n : Int) : Bool := within n 2 7 && (within m.frm 0 (n - 1) && within m.dst 0 (n - 1))
theorem within0 (x : Int) : within x 0 0 = decide (x = 0) := by
  rw [Bool.eq_iff_iff, within_iff, decide_eq_true_eq]
  omega
theorem fields_ref {m : MNum} (es : List Ent) (h : within m.kind 1 10 = true) :
    fieldsM m es = (fS m && (fE m && (fV m && (fB m && (fL m && (fT m && (fN m es && (promM m es && (fO m && fA m))))))))) := by
  have hk := within_iff.1 h
  have h10 : m.kind = 1 ∨ m.kind = 2 ∨ m.kind = 3 ∨ m.kind = 4 ∨ m.kind = 5 ∨ m.kind = 6 ∨ m.kind = 7 ∨ m.kind = 8 ∨ m.kind = 9 ∨ m.kind = 10 := by omega
  clear hk h
  have t0 : (within m.stamp 0 1073741824 && decide (m.stamp = 0)) = decide (m.stamp = 0) := by
    rw [Bool.eq_iff_iff, Bool.and_eq_true, within_iff, decide_eq_true_eq]
    omega
  have s0 : (within m.stream 0 3 && decide (m.stream = 0)) = decide (m.stream = 0) := by
    rw [Bool.eq_iff_iff, Bool.and_eq_true, within_iff, decide_eq_true_eq]
    omega
  have w0 : within 0 0 64 = true := rfl
  rcases h10 with hk | hk | hk | hk | hk | hk | hk | hk | hk | hk
  · unfold fieldsM fS fE fV fB fL fT fN fO fA entsM promM beside logGood sMost eLeast eMost vMost bMost lMost tMost
    simp [hk, bitsOf, within0]
  · unfold fieldsM fS fE fV fB fL fT fN fO fA entsM promM beside logGood sMost eLeast eMost vMost bMost lMost tMost
    by_cases hb : m.base = 0
    · simp [hk, bitsOf, within0, Bool.and_assoc, hb, w0]
    · simp [hk, bitsOf, within0, Bool.and_assoc, hb]
  · unfold fieldsM fS fE fV fB fL fT fN fO fA entsM promM beside logGood sMost eLeast eMost vMost bMost lMost tMost
    simp [hk, bitsOf, within0, t0]
  · unfold fieldsM fS fE fV fB fL fT fN fO fA entsM promM beside logGood sMost eLeast eMost vMost bMost lMost tMost
    cases hb : within m.base 0 64
    · simp [hk, bitsOf, within0, Bool.and_assoc, hb]
    · simp [hk, bitsOf, within0, Bool.and_assoc, hb]
  · unfold fieldsM fS fE fV fB fL fT fN fO fA entsM promM beside logGood sMost eLeast eMost vMost bMost lMost tMost
    simp [hk, bitsOf, within0]
  · unfold fieldsM fS fE fV fB fL fT fN fO fA entsM promM beside logGood sMost eLeast eMost vMost bMost lMost tMost
    simp [hk, bitsOf, within0, t0]
  · unfold fieldsM fS fE fV fB fL fT fN fO fA entsM promM beside logGood sMost eLeast eMost vMost bMost lMost tMost
    simp [hk, bitsOf, within0, t0, s0]
  · unfold fieldsM fS fE fV fB fL fT fN fO fA entsM promM beside logGood sMost eLeast eMost vMost bMost lMost tMost
    simp [hk, bitsOf, within0, t0]
    rw [Bool.and_comm (ordZ m.ord)]
  · unfold fieldsM fS fE fV fB fL fT fN fO fA entsM promM beside logGood sMost eLeast eMost vMost bMost lMost tMost
    simp [hk, bitsOf, within0, t0]
  · unfold fieldsM fS fE fV fB fL fT fN fO fA entsM promM beside logGood sMost eLeast eMost vMost bMost lMost tMost
    simp [hk, bitsOf, within0, t0]
theorem may_ref (m : MNum) (es : List Ent) (n : Int) : mayM m es n = (headR m n && (within m.kind 1 10 && (fS m && (fE m && (fV m && (fB m && (fL m && (fT m && (fN m es && (promM m es && (fO m && fA m))))))))))) := by
  cases h : within m.kind 1 10 with
  | false =>
    unfold mayM headM
    rw [h]
    simp
  | true =>
    unfold mayM headM headR
    rw [h, fields_ref es h]
    simp only [Bool.and_true, Bool.true_and, Bool.and_assoc]
end Go.Proofs.YtnekpehgaojkaaaDoor
