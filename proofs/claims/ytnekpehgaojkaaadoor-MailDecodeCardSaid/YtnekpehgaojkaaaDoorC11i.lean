/- mail.Check, mail.Encode, SameMail. (Printed by wip/src/XC11i.py.) -/
import Derived.Test.YtnekpehgaojkaaaDoorC11h
import Derived.Test.YtnekpehgaojkaaaDoorC11z
import Derived.Test.YtnekpehgaojkaaaDoorMid
namespace Go.Proofs.YtnekpehgaojkaaaDoor
open Go.RowKit

theorem mailAt.belowB {B : Nat} {w w' : World} {g : Nat} {m : MNum} {ve : Value} (h : mailAt w g m ve) (hg : g < B) (hb : Below B w w') : mailAt w' g m ve := h.of fun o => hb.cell (p := ⟨g, o, none⟩) hg
def MNum.nums (m : MNum) : List Int := [m.kind, m.frm, m.dst, m.stream, m.epoch, m.view, m.base, m.length, m.stamp]
def AnsOk (a : Ans) : Prop := ∀ x ∈ a.nums, -9223372036854775808 ≤ x ∧ x ≤ 9223372036854775807
def MNumOk (m : MNum) : Prop := (∀ x ∈ m.nums, -9223372036854775808 ≤ x ∧ x ≤ 9223372036854775807) ∧ OrdOk m.ord ∧ AnsOk m.ans
/-- A message's bytes. -/
def encM (m : MNum) (es : List Ent) : List UInt8 := putL m.nums ++ putL [(es.length : Int)] ++ entsL es ++ putL m.ord.nums ++ putL m.ans.nums
theorem encM_ne (m : MNum) (es : List Ent) : encM m es ≠ [] := by
  intro h
  unfold encM at h
  simp only [List.append_eq_nil_iff] at h
  exact putL_ne h.1.1.1.1
theorem mayM_small {m : MNum} {es : List Ent} {n : Int} (h : mayM m es n = true) : es.length ≤ 64 := by
  unfold mayM fieldsM at h
  simp only [Bool.and_eq_true] at h
  have h1 := h.2.2.2.2.2.2.2.1
  unfold entsM at h1
  split at h1
  · exact log_small h1
  · split at h1
    · exact log_small h1
    · have := of_decide_eq_true h1
      omega
theorem encM_few {m : MNum} {es : List Ent} {n : Int} (h : mayM m es n = true) : (encM m es).length ≤ 5000 := by
  have h1 := mayM_small h
  have e1 := putL_len m.nums
  have e2 := putL_len [(es.length : Int)]
  have e3 := putL_len m.ord.nums
  have e4 := entsL_len es
  have e5 := putL_len m.ans.nums
  have f1 : m.nums.length = 9 := rfl
  have f2 : m.ord.nums.length = 5 := rfl
  have f3 : m.ans.nums.length = 3 := rfl
  unfold encM
  simp only [List.length_append, List.length_singleton] at *
  omega
theorem may_m {B : Nat} {w : World} {m : MNum} {n : Int} {ae : Option Addr} {ce : Nat} {es : List Ent} (hK : KindsAt w) (he : EntsAt B w (.slice ae es.length ce) es) (hl : es.length ≤ 1000000) {b : Bool} (h : mayM m es n = b) :
    Calls Tryd.prog 19 #[.agg #[.int .i64 m.kind, .int .i64 m.frm, .int .i64 m.dst, .int .i64 m.stream, .int .i64 m.epoch, .int .i64 m.view, .int .i64 m.base, .int .i64 m.length, .int .i64 m.stamp, .slice ae es.length ce, .int .i64 m.ord.id, .int .i64 m.ord.stream, .int .i64 m.ord.expect, .int .i64 m.ord.kind, .int .i64 m.ord.arg, .int .i64 m.ans.id, .int .i64 m.ans.code, .int .i64 m.ans.ver], .int .i64 n] w fun e w' => e = .returned (.bool b) ∧ Below w.heap.size w w' := by
  have := mayM_any m n hK he hl
  rw [h] at this
  exact this
theorem checkM_yes {B : Nat} {w : World} {m : MNum} {n : Int} {ae : Option Addr} {ce : Nat} {es : List Ent} (hK : KindsAt w) (he : EntsAt B w (.slice ae es.length ce) es) (hl : es.length ≤ 1000000) (h : mayM m es n = true) :
    Calls Tryd.prog 11 #[.agg #[.int .i64 m.kind, .int .i64 m.frm, .int .i64 m.dst, .int .i64 m.stream, .int .i64 m.epoch, .int .i64 m.view, .int .i64 m.base, .int .i64 m.length, .int .i64 m.stamp, .slice ae es.length ce, .int .i64 m.ord.id, .int .i64 m.ord.stream, .int .i64 m.ord.expect, .int .i64 m.ord.kind, .int .i64 m.ord.arg, .int .i64 m.ans.id, .int .i64 m.ans.code, .int .i64 m.ans.ver], .int .i64 n] w fun e w' => e = .returned (.int .i64 0) ∧ Below w.heap.size w w' := by
  obtain ⟨w1, e1, b1, s1, g1⟩ := boxed w (mailCells m (.slice ae es.length ce)) 28
  have E1 := Lib.hid (show w.alloc (.cells #[.int .i64 m.kind, .int .i64 m.frm, .int .i64 m.dst, .int .i64 m.stream, .int .i64 m.epoch, .int .i64 m.view, .int .i64 m.base, .int .i64 m.length, .int .i64 m.stamp, .slice ae es.length ce, .int .i64 m.ord.id, .int .i64 m.ord.stream, .int .i64 m.ord.expect, .int .i64 m.ord.kind, .int .i64 m.ord.arg, .int .i64 m.ans.id, .int .i64 m.ans.code, .int .i64 m.ans.ver] 28) = w1 from e1)
  have hrg : w1.rangeAt w.heap.size 0 (mailCells m (.slice ae es.length ce)).toList := msg_range g1
  have HM := Lib.hid (may_m (hK.below b1 hK.pos) (he.below b1) hl h)
  clear e1 g1 he hK h
  go_enter Tryd.func11, Tryd.ntmps11
  go_upto_region 1 with fail
  (try rw [E1.out])
  go_wp2_with (refine wpList_load_mid rfl _ _ rfl _ _ rfl _ _ hrg Tryd.underlying28 rfl (by kernel_rfl) ?_)
  refine HM.out.mono ?_
  rintro e w2 ⟨rfl, b2⟩
  clear hrg
  go_wp2
  go_ret
  exact ⟨rfl, b1.trans (b2.mono b1.size)⟩
theorem checkM_no {B : Nat} {w : World} {m : MNum} {n : Int} {ae : Option Addr} {ce : Nat} {es : List Ent} (hK : KindsAt w) (he : EntsAt B w (.slice ae es.length ce) es) (hl : es.length ≤ 1000000) (h : mayM m es n = false) :
    Calls Tryd.prog 11 #[.agg #[.int .i64 m.kind, .int .i64 m.frm, .int .i64 m.dst, .int .i64 m.stream, .int .i64 m.epoch, .int .i64 m.view, .int .i64 m.base, .int .i64 m.length, .int .i64 m.stamp, .slice ae es.length ce, .int .i64 m.ord.id, .int .i64 m.ord.stream, .int .i64 m.ord.expect, .int .i64 m.ord.kind, .int .i64 m.ord.arg, .int .i64 m.ans.id, .int .i64 m.ans.code, .int .i64 m.ans.ver], .int .i64 n] w fun e w' => e = .returned (.int .i64 2) ∧ Below w.heap.size w w' := by
  obtain ⟨w1, e1, b1, s1, g1⟩ := boxed w (mailCells m (.slice ae es.length ce)) 28
  have E1 := Lib.hid (show w.alloc (.cells #[.int .i64 m.kind, .int .i64 m.frm, .int .i64 m.dst, .int .i64 m.stream, .int .i64 m.epoch, .int .i64 m.view, .int .i64 m.base, .int .i64 m.length, .int .i64 m.stamp, .slice ae es.length ce, .int .i64 m.ord.id, .int .i64 m.ord.stream, .int .i64 m.ord.expect, .int .i64 m.ord.kind, .int .i64 m.ord.arg, .int .i64 m.ans.id, .int .i64 m.ans.code, .int .i64 m.ans.ver] 28) = w1 from e1)
  have hrg : w1.rangeAt w.heap.size 0 (mailCells m (.slice ae es.length ce)).toList := msg_range g1
  have HM := Lib.hid (may_m (hK.below b1 hK.pos) (he.below b1) hl h)
  clear e1 g1 he hK h
  go_enter Tryd.func11, Tryd.ntmps11
  go_upto_region 1 with fail
  (try rw [E1.out])
  go_wp2_with (refine wpList_load_mid rfl _ _ rfl _ _ rfl _ _ hrg Tryd.underlying28 rfl (by kernel_rfl) ?_)
  refine HM.out.mono ?_
  rintro e w2 ⟨rfl, b2⟩
  clear hrg
  go_wp2
  go_ret
  exact ⟨rfl, b1.trans (b2.mono b1.size)⟩
set_option maxRecDepth 100000 in
set_option maxHeartbeats 4000000 in
theorem encodeM_no {B : Nat} {w : World} {m : MNum} {n : Int} {ae : Option Addr} {ce : Nat} {es : List Ent} (hK : KindsAt w) (he : EntsAt B w (.slice ae es.length ce) es) (hl : es.length ≤ 1000000) (h : mayM m es n = false) :
    Calls Tryd.prog 9 #[.agg #[.int .i64 m.kind, .int .i64 m.frm, .int .i64 m.dst, .int .i64 m.stream, .int .i64 m.epoch, .int .i64 m.view, .int .i64 m.base, .int .i64 m.length, .int .i64 m.stamp, .slice ae es.length ce, .int .i64 m.ord.id, .int .i64 m.ord.stream, .int .i64 m.ord.expect, .int .i64 m.ord.kind, .int .i64 m.ord.arg, .int .i64 m.ans.id, .int .i64 m.ans.code, .int .i64 m.ans.ver], .int .i64 n] w fun e w' => e = .returned (.tuple #[.string ⟨#[]⟩, .int .i64 2]) ∧ Below w.heap.size w w' := by
  obtain ⟨w1, e1, b1, s1, g1⟩ := boxed w (mailCells m (.slice ae es.length ce)) 28
  have E1 := Lib.hid (show w.alloc (.cells #[.int .i64 m.kind, .int .i64 m.frm, .int .i64 m.dst, .int .i64 m.stream, .int .i64 m.epoch, .int .i64 m.view, .int .i64 m.base, .int .i64 m.length, .int .i64 m.stamp, .slice ae es.length ce, .int .i64 m.ord.id, .int .i64 m.ord.stream, .int .i64 m.ord.expect, .int .i64 m.ord.kind, .int .i64 m.ord.arg, .int .i64 m.ans.id, .int .i64 m.ans.code, .int .i64 m.ans.ver] 28) = w1 from e1)
  have hrg : w1.rangeAt w.heap.size 0 (mailCells m (.slice ae es.length ce)).toList := msg_range g1
  have HM := Lib.hid (may_m (hK.below b1 hK.pos) (he.below b1) hl h)
  clear e1 g1 he hK h
  go_enter Tryd.func9, Tryd.ntmps9
  go_upto_region 1 with fail
  rw [E1.out]
  go_wp2_with (refine wpList_load_mid rfl _ _ rfl _ _ rfl _ _ hrg Tryd.underlying28 rfl (by kernel_rfl) ?_)
  refine HM.out.mono ?_
  rintro e w2 ⟨rfl, b2⟩
  clear hrg
  go_wp2
  go_ret2
  exact ⟨rfl, b1.trans (b2.mono b1.size)⟩
end Go.Proofs.YtnekpehgaojkaaaDoor
