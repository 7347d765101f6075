/- The contract of mail.may. (Printed by wip/src/XC11c.py.) -/
import Derived.Test.YtnekpehgaojkaaaDoorC11b
namespace Go.Proofs.YtnekpehgaojkaaaDoor
open Go.RowKit

def sMost (k : Int) : Int := if k = 7 then 0 else 3
def eLeast (k : Int) : Int := if k = 7 then 0 else if k = 8 then 0 else if k = 3 then 0 else 1
def eMost (k : Int) : Int := if k = 7 then 0 else if k = 8 then 0 else 1048576
def vMost (k : Int) : Int := if k = 2 then 1048576 else 0
def bMost (k : Int) : Int := if k = 4 then 64 else 0
def lMost (k : Int) : Int := if k = 2 then 64 else if k = 4 then 64 else if k = 5 then 64 else if k = 6 then 64 else 0
def tMost (k : Int) : Int := if k = 1 then 1073741824 else if k = 2 then 1073741824 else if k = 4 then 1073741824 else if k = 5 then 1073741824 else 0
def entsM (m : MNum) (es : List Ent) : Bool := if m.kind = 2 then logGood es m.stream m.base else if m.kind = 4 then logGood es m.stream m.base else decide (es.length = 0)
def promM (m : MNum) (es : List Ent) : Bool := if m.kind = 2 then decide (m.length ≤ (es.length : Int)) else true
def ordZ (o : Ord) : Bool := o.id == 0 && (o.stream == 0 && (o.expect == 0 && (o.kind == 0 && o.arg == 0)))
def ansZ (a : Ans) : Bool := a.id == 0 && (a.code == 0 && a.ver == 0)
def beside (m : MNum) : Bool := if m.kind = 7 then mayB m.ord && ansZ m.ans else if m.kind = 8 then toldB m.ans && ordZ m.ord else ordZ m.ord && ansZ m.ans
/-- May the fields be, of that kind? -/
def fieldsM (m : MNum) (es : List Ent) : Bool := within m.stream 0 (sMost m.kind) && (within m.epoch (eLeast m.kind) (eMost m.kind) && (within m.view 0 (vMost m.kind) && (within m.base 0 (bMost m.kind) && (within m.length 0 (lMost m.kind) && (within m.stamp 0 (tMost m.kind) && (entsM m es && (promM m es && beside m)))))))
def headM (m : MNum) (n : Int) : Bool := within n 2 7 && (within m.frm 0 (n - 1) && (within m.dst 0 (n - 1) && within m.kind 1 10))
/-- May a message be, among so many sites? -/
def mayM (m : MNum) (es : List Ent) (n : Int) : Bool := headM m n && fieldsM m es

set_option maxRecDepth 100000 in
set_option maxHeartbeats 8000000 in
theorem may_k1 {B : Nat} {w : World} (m : MNum) (n : Int) {ae : Option Addr} {ce : Nat} {es : List Ent} (hK : KindsAt w) (he : EntsAt B w (.slice ae es.length ce) es) (_hl : es.length ≤ 1000000) (hn : within n 2 7 = true) (h1 : 0 ≤ m.frm) (h2 : m.frm < n) (h3 : 0 ≤ m.dst) (h4 : m.dst < n) (hk : m.kind = 1) :
    Calls Tryd.prog 19 #[.agg #[.int .i64 m.kind, .int .i64 m.frm, .int .i64 m.dst, .int .i64 m.stream, .int .i64 m.epoch, .int .i64 m.view, .int .i64 m.base, .int .i64 m.length, .int .i64 m.stamp, .slice ae es.length ce, .int .i64 m.ord.id, .int .i64 m.ord.stream, .int .i64 m.ord.expect, .int .i64 m.ord.kind, .int .i64 m.ord.arg, .int .i64 m.ans.id, .int .i64 m.ans.code, .int .i64 m.ans.ver], .int .i64 n] w fun e w' => e = .returned (.bool (mayM m es n)) ∧ Below w.heap.size w w' := by
  obtain ⟨w1, e1, b1, s1, g1⟩ := boxed w (mailCells m (.slice ae es.length ce)) 28
  have E1 := Lib.hid (show w.alloc (.cells #[.int .i64 m.kind, .int .i64 m.frm, .int .i64 m.dst, .int .i64 m.stream, .int .i64 m.epoch, .int .i64 m.view, .int .i64 m.base, .int .i64 m.length, .int .i64 m.stamp, .slice ae es.length ce, .int .i64 m.ord.id, .int .i64 m.ord.stream, .int .i64 m.ord.expect, .int .i64 m.ord.kind, .int .i64 m.ord.arg, .int .i64 m.ans.id, .int .i64 m.ans.code, .int .i64 m.ans.ver] 28) = w1 from e1)
  have R1 := Lib.hid (mail_cells g1)
  obtain ⟨c0, c1, c2, c3, c4, c5, c6, c7, c8, c9, c10, c11, c12, c13, c14, c15, c16, c17⟩ := R1.out
  have HK := Lib.hid (hK.below b1 hK.pos)
  have HE := Lib.hid (he.below b1)
  have HJ := Lib.hid (maj_any n)
  clear e1 g1 he hK
  have HM := Lib.hid (show mayM m es n = (within m.stream 0 3 && (within m.epoch 1 1048576 && (within m.view 0 0 && (within m.base 0 0 && (within m.length 0 0 && (within m.stamp 0 1073741824 && (decide (es.length = 0) && (ordZ m.ord && (ansZ m.ans))))))))) by
    have hh : headM m n = true := by unfold headM; rw [hn, within_yes h1 (show m.frm ≤ n - 1 by omega), within_yes h3 (show m.dst ≤ n - 1 by omega), hk]; rfl
    have hs : sMost m.kind = 3 ∧ eLeast m.kind = 1 ∧ eMost m.kind = 1048576 ∧ vMost m.kind = 0 ∧ bMost m.kind = 0 ∧ lMost m.kind = 0 ∧ tMost m.kind = 1073741824 := by rw [hk]; exact ⟨rfl, rfl, rfl, rfl, rfl, rfl, rfl⟩
    obtain ⟨q1, q2, q3, q4, q5, q6, q7⟩ := hs
    unfold mayM fieldsM
    rw [hh, q1, q2, q3, q4, q5, q6, q7]
    simp only [entsM, promM, beside, hk]
    simp)
  have hj : (majN n == 0) = false := by unfold majN; rw [hn, beq_eq_false_iff_ne]; have := within_iff.1 hn; simp; omega
  have HB := Lib.hid hn
  obtain ⟨z0, z1, z2, z3, z4, z5, z6, z7, z8, z9, z10⟩ := HK.out
  have CS := from_any 1 m.stream 0 3
  rw [show fromB 1 m.stream 0 3 = within m.stream 0 3 from rfl] at CS
  have CE := from_any 2 m.epoch 1 1048576
  rw [show fromB 2 m.epoch 1 1048576 = within m.epoch 1 1048576 from rfl] at CE
  have CV := from_any 0 m.view 0 1048576
  rw [show fromB 0 m.view 0 1048576 = within m.view 0 0 from rfl] at CV
  have CB := from_any 0 m.base 0 64
  rw [show fromB 0 m.base 0 64 = within m.base 0 0 from rfl] at CB
  have CL := from_any 0 m.length 0 64
  rw [show fromB 0 m.length 0 64 = within m.length 0 0 from rfl] at CL
  have CT := from_any 32 m.stamp 0 1073741824
  rw [show fromB 32 m.stamp 0 1073741824 = within m.stamp 0 1073741824 from rfl] at CT
  have HKi := Lib.hid hk
  rw [hk] at c0 E1 ⊢
  clear hn hk
  have y1 : bits BinOp.and IntKind.i64 35 1 = 1 := by decide
  have y2 : bits BinOp.and IntKind.i64 35 2 = 2 := by decide
  have y4 : bits BinOp.and IntKind.i64 35 4 = 0 := by decide
  have y8 : bits BinOp.and IntKind.i64 35 8 = 0 := by decide
  have y16 : bits BinOp.and IntKind.i64 35 16 = 0 := by decide
  have y32 : bits BinOp.and IntKind.i64 35 32 = 32 := by decide
  have y64 : bits BinOp.and IntKind.i64 35 64 = 0 := by decide
  have y128 : bits BinOp.and IntKind.i64 35 128 = 0 := by decide
  have y256 : bits BinOp.and IntKind.i64 35 256 = 0 := by decide
  go_enter Tryd.func19, Tryd.ntmps19
  go_wp2_with fail
  rw [E1.out]
  refine (HJ.out _).mono ?_
  rintro e w2 ⟨rfl, rfl⟩
  have DS := Lib.hid CS
  cases hS : within m.stream 0 3 with
  | false =>
    have FS := Lib.hid hS
    rw [hS] at DS
    clear hS
    go_wp2_with fail
    refine (DS.out _).mono ?_
    rintro e w2 ⟨rfl, rfl⟩
    go_wp2
    go_ret
    exact ⟨ret_bool (by rw [HM.out, FS.out]; rfl), b1⟩
  | true =>
    have FS := Lib.hid hS
    rw [hS] at DS
    clear hS
    go_wp2_with fail
    refine (DS.out _).mono ?_
    rintro e w2 ⟨rfl, rfl⟩
    have DE := Lib.hid CE
    cases hE : within m.epoch 1 1048576 with
    | false =>
      have FE := Lib.hid hE
      rw [hE] at DE
      clear hE
      go_wp2_with fail
      refine (DE.out _).mono ?_
      rintro e w2 ⟨rfl, rfl⟩
      go_wp2
      go_ret
      exact ⟨ret_bool (by rw [HM.out, FS.out, FE.out]; rfl), b1⟩
    | true =>
      have FE := Lib.hid hE
      rw [hE] at DE
      clear hE
      go_wp2_with fail
      refine (DE.out _).mono ?_
      rintro e w2 ⟨rfl, rfl⟩
      have DV := Lib.hid CV
      cases hV : within m.view 0 0 with
      | false =>
        have FV := Lib.hid hV
        rw [hV] at DV
        clear hV
        go_wp2_with fail
        refine (DV.out _).mono ?_
        rintro e w2 ⟨rfl, rfl⟩
        go_wp2
        go_ret
        exact ⟨ret_bool (by rw [HM.out, FS.out, FE.out, FV.out]; rfl), b1⟩
      | true =>
        have FV := Lib.hid hV
        rw [hV] at DV
        clear hV
        go_wp2_with fail
        refine (DV.out _).mono ?_
        rintro e w2 ⟨rfl, rfl⟩
        have DB := Lib.hid CB
        cases hB : within m.base 0 0 with
        | false =>
          have FB := Lib.hid hB
          rw [hB] at DB
          clear hB
          go_wp2_with fail
          refine (DB.out _).mono ?_
          rintro e w2 ⟨rfl, rfl⟩
          go_wp2
          go_ret
          exact ⟨ret_bool (by rw [HM.out, FS.out, FE.out, FV.out, FB.out]; rfl), b1⟩
        | true =>
          have FB := Lib.hid hB
          rw [hB] at DB
          clear hB
          go_wp2_with fail
          refine (DB.out _).mono ?_
          rintro e w2 ⟨rfl, rfl⟩
          have DL := Lib.hid CL
          cases hL : within m.length 0 0 with
          | false =>
            have FL := Lib.hid hL
            rw [hL] at DL
            clear hL
            go_wp2_with fail
            refine (DL.out _).mono ?_
            rintro e w2 ⟨rfl, rfl⟩
            go_wp2
            go_ret
            exact ⟨ret_bool (by rw [HM.out, FS.out, FE.out, FV.out, FB.out, FL.out]; rfl), b1⟩
          | true =>
            have FL := Lib.hid hL
            rw [hL] at DL
            clear hL
            go_wp2_with fail
            refine (DL.out _).mono ?_
            rintro e w2 ⟨rfl, rfl⟩
            have DT := Lib.hid CT
            cases hT : within m.stamp 0 1073741824 with
            | false =>
              have FT := Lib.hid hT
              rw [hT] at DT
              clear hT
              go_wp2_with fail
              refine (DT.out _).mono ?_
              rintro e w2 ⟨rfl, rfl⟩
              go_wp2
              go_ret
              exact ⟨ret_bool (by rw [HM.out, FS.out, FE.out, FV.out, FB.out, FL.out, FT.out]; rfl), b1⟩
            | true =>
              have FT := Lib.hid hT
              rw [hT] at DT
              clear hT
              go_wp2_with fail
              refine (DT.out _).mono ?_
              rintro e w2 ⟨rfl, rfl⟩
              by_cases he0 : es.length = 0
              · have Fe := Lib.hid (decide_eq_true he0)
                have de : decide (0 < es.length) = false := decide_eq_false (by omega)
                clear he0
                go_wp2
                all_goals
                  go_ret
                  exact ⟨ret_bool (by rw [HM.out, FS.out, FE.out, FV.out, FB.out, FL.out, FT.out, Fe.out]; simp [ordZ, ansZ, *]), b1⟩
              · have Fe := Lib.hid (decide_eq_false he0)
                have de : decide (0 < es.length) = true := decide_eq_true (by omega)
                clear he0
                go_wp2
                go_ret
                exact ⟨ret_bool (by rw [HM.out, FS.out, FE.out, FV.out, FB.out, FL.out, FT.out, Fe.out]; rfl), b1⟩
set_option maxRecDepth 100000 in
set_option maxHeartbeats 8000000 in
theorem may_k2 {B : Nat} {w : World} (m : MNum) (n : Int) {ae : Option Addr} {ce : Nat} {es : List Ent} (hK : KindsAt w) (he : EntsAt B w (.slice ae es.length ce) es) (_hl : es.length ≤ 1000000) (hn : within n 2 7 = true) (h1 : 0 ≤ m.frm) (h2 : m.frm < n) (h3 : 0 ≤ m.dst) (h4 : m.dst < n) (hk : m.kind = 2) :
    Calls Tryd.prog 19 #[.agg #[.int .i64 m.kind, .int .i64 m.frm, .int .i64 m.dst, .int .i64 m.stream, .int .i64 m.epoch, .int .i64 m.view, .int .i64 m.base, .int .i64 m.length, .int .i64 m.stamp, .slice ae es.length ce, .int .i64 m.ord.id, .int .i64 m.ord.stream, .int .i64 m.ord.expect, .int .i64 m.ord.kind, .int .i64 m.ord.arg, .int .i64 m.ans.id, .int .i64 m.ans.code, .int .i64 m.ans.ver], .int .i64 n] w fun e w' => e = .returned (.bool (mayM m es n)) ∧ Below w.heap.size w w' := by
  obtain ⟨w1, e1, b1, s1, g1⟩ := boxed w (mailCells m (.slice ae es.length ce)) 28
  have E1 := Lib.hid (show w.alloc (.cells #[.int .i64 m.kind, .int .i64 m.frm, .int .i64 m.dst, .int .i64 m.stream, .int .i64 m.epoch, .int .i64 m.view, .int .i64 m.base, .int .i64 m.length, .int .i64 m.stamp, .slice ae es.length ce, .int .i64 m.ord.id, .int .i64 m.ord.stream, .int .i64 m.ord.expect, .int .i64 m.ord.kind, .int .i64 m.ord.arg, .int .i64 m.ans.id, .int .i64 m.ans.code, .int .i64 m.ans.ver] 28) = w1 from e1)
  have R1 := Lib.hid (mail_cells g1)
  obtain ⟨c0, c1, c2, c3, c4, c5, c6, c7, c8, c9, c10, c11, c12, c13, c14, c15, c16, c17⟩ := R1.out
  have HK := Lib.hid (hK.below b1 hK.pos)
  have HE := Lib.hid (he.below b1)
  have HJ := Lib.hid (maj_any n)
  clear e1 g1 he hK
  have HM := Lib.hid (show mayM m es n = (within m.stream 0 3 && (within m.epoch 1 1048576 && (within m.view 0 1048576 && (within m.base 0 0 && (within m.length 0 64 && (within m.stamp 0 1073741824 && (logGood es m.stream m.base && (decide (m.length ≤ (es.length : Int)) && (ordZ m.ord && (ansZ m.ans)))))))))) by
    have hh : headM m n = true := by unfold headM; rw [hn, within_yes h1 (show m.frm ≤ n - 1 by omega), within_yes h3 (show m.dst ≤ n - 1 by omega), hk]; rfl
    have hs : sMost m.kind = 3 ∧ eLeast m.kind = 1 ∧ eMost m.kind = 1048576 ∧ vMost m.kind = 1048576 ∧ bMost m.kind = 0 ∧ lMost m.kind = 64 ∧ tMost m.kind = 1073741824 := by rw [hk]; exact ⟨rfl, rfl, rfl, rfl, rfl, rfl, rfl⟩
    obtain ⟨q1, q2, q3, q4, q5, q6, q7⟩ := hs
    unfold mayM fieldsM
    rw [hh, q1, q2, q3, q4, q5, q6, q7]
    simp only [entsM, promM, beside, hk]
    simp)
  have hj : (majN n == 0) = false := by unfold majN; rw [hn, beq_eq_false_iff_ne]; have := within_iff.1 hn; simp; omega
  have HB := Lib.hid hn
  obtain ⟨z0, z1, z2, z3, z4, z5, z6, z7, z8, z9, z10⟩ := HK.out
  have CS := from_any 1 m.stream 0 3
  rw [show fromB 1 m.stream 0 3 = within m.stream 0 3 from rfl] at CS
  have CE := from_any 2 m.epoch 1 1048576
  rw [show fromB 2 m.epoch 1 1048576 = within m.epoch 1 1048576 from rfl] at CE
  have CV := from_any 4 m.view 0 1048576
  rw [show fromB 4 m.view 0 1048576 = within m.view 0 1048576 from rfl] at CV
  have CB := from_any 0 m.base 0 64
  rw [show fromB 0 m.base 0 64 = within m.base 0 0 from rfl] at CB
  have CL := from_any 16 m.length 0 64
  rw [show fromB 16 m.length 0 64 = within m.length 0 64 from rfl] at CL
  have CT := from_any 32 m.stamp 0 1073741824
  rw [show fromB 32 m.stamp 0 1073741824 = within m.stamp 0 1073741824 from rfl] at CT
  have HKi := Lib.hid hk
  rw [hk] at c0 E1 ⊢
  clear hn hk
  have y1 : bits BinOp.and IntKind.i64 119 1 = 1 := by decide
  have y2 : bits BinOp.and IntKind.i64 119 2 = 2 := by decide
  have y4 : bits BinOp.and IntKind.i64 119 4 = 4 := by decide
  have y8 : bits BinOp.and IntKind.i64 119 8 = 0 := by decide
  have y16 : bits BinOp.and IntKind.i64 119 16 = 16 := by decide
  have y32 : bits BinOp.and IntKind.i64 119 32 = 32 := by decide
  have y64 : bits BinOp.and IntKind.i64 119 64 = 64 := by decide
  have y128 : bits BinOp.and IntKind.i64 119 128 = 0 := by decide
  have y256 : bits BinOp.and IntKind.i64 119 256 = 0 := by decide
  go_enter Tryd.func19, Tryd.ntmps19
  go_wp2_with fail
  rw [E1.out]
  refine (HJ.out _).mono ?_
  rintro e w2 ⟨rfl, rfl⟩
  have DS := Lib.hid CS
  cases hS : within m.stream 0 3 with
  | false =>
    have FS := Lib.hid hS
    rw [hS] at DS
    clear hS
    go_wp2_with fail
    refine (DS.out _).mono ?_
    rintro e w2 ⟨rfl, rfl⟩
    go_wp2
    go_ret
    exact ⟨ret_bool (by rw [HM.out, FS.out]; rfl), b1⟩
  | true =>
    have FS := Lib.hid hS
    rw [hS] at DS
    clear hS
    go_wp2_with fail
    refine (DS.out _).mono ?_
    rintro e w2 ⟨rfl, rfl⟩
    have DE := Lib.hid CE
    cases hE : within m.epoch 1 1048576 with
    | false =>
      have FE := Lib.hid hE
      rw [hE] at DE
      clear hE
      go_wp2_with fail
      refine (DE.out _).mono ?_
      rintro e w2 ⟨rfl, rfl⟩
      go_wp2
      go_ret
      exact ⟨ret_bool (by rw [HM.out, FS.out, FE.out]; rfl), b1⟩
    | true =>
      have FE := Lib.hid hE
      rw [hE] at DE
      clear hE
      go_wp2_with fail
      refine (DE.out _).mono ?_
      rintro e w2 ⟨rfl, rfl⟩
      have DV := Lib.hid CV
      cases hV : within m.view 0 1048576 with
      | false =>
        have FV := Lib.hid hV
        rw [hV] at DV
        clear hV
        go_wp2_with fail
        refine (DV.out _).mono ?_
        rintro e w2 ⟨rfl, rfl⟩
        go_wp2
        go_ret
        exact ⟨ret_bool (by rw [HM.out, FS.out, FE.out, FV.out]; rfl), b1⟩
      | true =>
        have FV := Lib.hid hV
        rw [hV] at DV
        clear hV
        go_wp2_with fail
        refine (DV.out _).mono ?_
        rintro e w2 ⟨rfl, rfl⟩
        have DB := Lib.hid CB
        cases hB : within m.base 0 0 with
        | false =>
          have FB := Lib.hid hB
          rw [hB] at DB
          clear hB
          go_wp2_with fail
          refine (DB.out _).mono ?_
          rintro e w2 ⟨rfl, rfl⟩
          go_wp2
          go_ret
          exact ⟨ret_bool (by rw [HM.out, FS.out, FE.out, FV.out, FB.out]; rfl), b1⟩
        | true =>
          have FB := Lib.hid hB
          rw [hB] at DB
          clear hB
          go_wp2_with fail
          refine (DB.out _).mono ?_
          rintro e w2 ⟨rfl, rfl⟩
          have DL := Lib.hid CL
          cases hL : within m.length 0 64 with
          | false =>
            have FL := Lib.hid hL
            rw [hL] at DL
            clear hL
            go_wp2_with fail
            refine (DL.out _).mono ?_
            rintro e w2 ⟨rfl, rfl⟩
            go_wp2
            go_ret
            exact ⟨ret_bool (by rw [HM.out, FS.out, FE.out, FV.out, FB.out, FL.out]; rfl), b1⟩
          | true =>
            have FL := Lib.hid hL
            rw [hL] at DL
            clear hL
            go_wp2_with fail
            refine (DL.out _).mono ?_
            rintro e w2 ⟨rfl, rfl⟩
            have DT := Lib.hid CT
            cases hT : within m.stamp 0 1073741824 with
            | false =>
              have FT := Lib.hid hT
              rw [hT] at DT
              clear hT
              go_wp2_with fail
              refine (DT.out _).mono ?_
              rintro e w2 ⟨rfl, rfl⟩
              go_wp2
              go_ret
              exact ⟨ret_bool (by rw [HM.out, FS.out, FE.out, FV.out, FB.out, FL.out, FT.out]; rfl), b1⟩
            | true =>
              have FT := Lib.hid hT
              rw [hT] at DT
              clear hT
              go_wp2_with fail
              refine (DT.out _).mono ?_
              rintro e w2 ⟨rfl, rfl⟩
              have DG := Lib.hid (log_any m.stream m.base HE.out _hl)
              cases hG : logGood es m.stream m.base with
              | false =>
                have FG := Lib.hid hG
                rw [hG] at DG
                clear hG
                go_wp2_with fail
                refine DG.out.mono ?_
                rintro e wg ⟨rfl, bg⟩
                clear c0 c1 c2 c3 c4 c5 c6 c7 c8 c9 c10 c11 c12 c13 c14 c15 c16 c17
                obtain ⟨c0, c1, c2, c3, c4, c5, c6, c7, c8, c9, c10, c11, c12, c13, c14, c15, c16, c17⟩ := R1.out.below (by omega) bg
                rw [HKi.out] at c0
                have B2 := b1.trans (bg.mono b1.size)
                go_wp2
                go_ret
                exact ⟨ret_bool (by rw [HM.out, FS.out, FE.out, FV.out, FB.out, FL.out, FT.out, FG.out]; rfl), B2⟩
              | true =>
                have FG := Lib.hid hG
                rw [hG] at DG
                clear hG
                go_wp2_with fail
                refine DG.out.mono ?_
                rintro e wg ⟨rfl, bg⟩
                clear c0 c1 c2 c3 c4 c5 c6 c7 c8 c9 c10 c11 c12 c13 c14 c15 c16 c17
                obtain ⟨c0, c1, c2, c3, c4, c5, c6, c7, c8, c9, c10, c11, c12, c13, c14, c15, c16, c17⟩ := R1.out.below (by omega) bg
                rw [HKi.out] at c0
                have B2 := b1.trans (bg.mono b1.size)
                by_cases hp : m.length ≤ (es.length : Int)
                · have dp : decide (m.length ≤ (es.length : Int)) = true := decide_eq_true hp
                  have Fp := Lib.hid dp
                  go_wp2
                  all_goals
                    go_ret
                    exact ⟨ret_bool (by rw [HM.out, FS.out, FE.out, FV.out, FB.out, FL.out, FT.out, FG.out, Fp.out]; simp [ordZ, ansZ, *]), B2⟩
                · have dp : decide (m.length ≤ (es.length : Int)) = false := decide_eq_false hp
                  have Fp := Lib.hid dp
                  go_wp2
                  go_ret
                  exact ⟨ret_bool (by rw [HM.out, FS.out, FE.out, FV.out, FB.out, FL.out, FT.out, FG.out, Fp.out]; rfl), B2⟩
set_option maxRecDepth 100000 in
set_option maxHeartbeats 8000000 in
theorem may_n {B : Nat} {w : World} (m : MNum) (n : Int) {ae : Option Addr} {ce : Nat} {es : List Ent} (hK : KindsAt w) (he : EntsAt B w (.slice ae es.length ce) es) (_hl : es.length ≤ 1000000) (hn : within n 2 7 = false) :
    Calls Tryd.prog 19 #[.agg #[.int .i64 m.kind, .int .i64 m.frm, .int .i64 m.dst, .int .i64 m.stream, .int .i64 m.epoch, .int .i64 m.view, .int .i64 m.base, .int .i64 m.length, .int .i64 m.stamp, .slice ae es.length ce, .int .i64 m.ord.id, .int .i64 m.ord.stream, .int .i64 m.ord.expect, .int .i64 m.ord.kind, .int .i64 m.ord.arg, .int .i64 m.ans.id, .int .i64 m.ans.code, .int .i64 m.ans.ver], .int .i64 n] w fun e w' => e = .returned (.bool (mayM m es n)) ∧ Below w.heap.size w w' := by
  obtain ⟨w1, e1, b1, s1, g1⟩ := boxed w (mailCells m (.slice ae es.length ce)) 28
  have E1 := Lib.hid (show w.alloc (.cells #[.int .i64 m.kind, .int .i64 m.frm, .int .i64 m.dst, .int .i64 m.stream, .int .i64 m.epoch, .int .i64 m.view, .int .i64 m.base, .int .i64 m.length, .int .i64 m.stamp, .slice ae es.length ce, .int .i64 m.ord.id, .int .i64 m.ord.stream, .int .i64 m.ord.expect, .int .i64 m.ord.kind, .int .i64 m.ord.arg, .int .i64 m.ans.id, .int .i64 m.ans.code, .int .i64 m.ans.ver] 28) = w1 from e1)
  have R1 := Lib.hid (mail_cells g1)
  obtain ⟨c0, c1, c2, c3, c4, c5, c6, c7, c8, c9, c10, c11, c12, c13, c14, c15, c16, c17⟩ := R1.out
  have HK := Lib.hid (hK.below b1 hK.pos)
  have HE := Lib.hid (he.below b1)
  have HJ := Lib.hid (maj_any n)
  clear e1 g1 he hK
  have HM := Lib.hid (show mayM m es n = false by unfold mayM headM; rw [hn]; rfl)
  have hj : (majN n == 0) = true := by unfold majN; rw [hn]; rfl
  clear hn
  go_enter Tryd.func19, Tryd.ntmps19
  go_wp2_with fail
  rw [E1.out]
  refine (HJ.out _).mono ?_
  rintro e w2 ⟨rfl, rfl⟩
  go_wp2
  go_ret
  exact ⟨ret_bool (by rw [HM.out]), b1⟩
set_option maxRecDepth 100000 in
set_option maxHeartbeats 8000000 in
theorem may_h0 {B : Nat} {w : World} (m : MNum) (n : Int) {ae : Option Addr} {ce : Nat} {es : List Ent} (hK : KindsAt w) (he : EntsAt B w (.slice ae es.length ce) es) (_hl : es.length ≤ 1000000) (hn : within n 2 7 = true)  (ha : ¬ 0 ≤ m.frm) :
    Calls Tryd.prog 19 #[.agg #[.int .i64 m.kind, .int .i64 m.frm, .int .i64 m.dst, .int .i64 m.stream, .int .i64 m.epoch, .int .i64 m.view, .int .i64 m.base, .int .i64 m.length, .int .i64 m.stamp, .slice ae es.length ce, .int .i64 m.ord.id, .int .i64 m.ord.stream, .int .i64 m.ord.expect, .int .i64 m.ord.kind, .int .i64 m.ord.arg, .int .i64 m.ans.id, .int .i64 m.ans.code, .int .i64 m.ans.ver], .int .i64 n] w fun e w' => e = .returned (.bool (mayM m es n)) ∧ Below w.heap.size w w' := by
  obtain ⟨w1, e1, b1, s1, g1⟩ := boxed w (mailCells m (.slice ae es.length ce)) 28
  have E1 := Lib.hid (show w.alloc (.cells #[.int .i64 m.kind, .int .i64 m.frm, .int .i64 m.dst, .int .i64 m.stream, .int .i64 m.epoch, .int .i64 m.view, .int .i64 m.base, .int .i64 m.length, .int .i64 m.stamp, .slice ae es.length ce, .int .i64 m.ord.id, .int .i64 m.ord.stream, .int .i64 m.ord.expect, .int .i64 m.ord.kind, .int .i64 m.ord.arg, .int .i64 m.ans.id, .int .i64 m.ans.code, .int .i64 m.ans.ver] 28) = w1 from e1)
  have R1 := Lib.hid (mail_cells g1)
  obtain ⟨c0, c1, c2, c3, c4, c5, c6, c7, c8, c9, c10, c11, c12, c13, c14, c15, c16, c17⟩ := R1.out
  have HK := Lib.hid (hK.below b1 hK.pos)
  have HE := Lib.hid (he.below b1)
  have HJ := Lib.hid (maj_any n)
  clear e1 g1 he hK
  have hf := (within_no (n := m.frm) (a := 0) (b := n - 1) (.inl (by omega)))
  have HM := Lib.hid (show mayM m es n = false by unfold mayM headM; rw [hf]; simp)
  have hj : (majN n == 0) = false := by unfold majN; rw [hn, beq_eq_false_iff_ne]; have := within_iff.1 hn; simp; omega
  have HB := Lib.hid hn
  clear hn hf
  go_enter Tryd.func19, Tryd.ntmps19
  go_wp2_with fail
  rw [E1.out]
  refine (HJ.out _).mono ?_
  rintro e w2 ⟨rfl, rfl⟩
  go_wp2
  go_ret
  exact ⟨ret_bool (by rw [HM.out]), b1⟩
set_option maxRecDepth 100000 in
set_option maxHeartbeats 8000000 in
theorem may_h1 {B : Nat} {w : World} (m : MNum) (n : Int) {ae : Option Addr} {ce : Nat} {es : List Ent} (hK : KindsAt w) (he : EntsAt B w (.slice ae es.length ce) es) (_hl : es.length ≤ 1000000) (hn : within n 2 7 = true) (ha : 0 ≤ m.frm) (hb : ¬ m.frm < n) :
    Calls Tryd.prog 19 #[.agg #[.int .i64 m.kind, .int .i64 m.frm, .int .i64 m.dst, .int .i64 m.stream, .int .i64 m.epoch, .int .i64 m.view, .int .i64 m.base, .int .i64 m.length, .int .i64 m.stamp, .slice ae es.length ce, .int .i64 m.ord.id, .int .i64 m.ord.stream, .int .i64 m.ord.expect, .int .i64 m.ord.kind, .int .i64 m.ord.arg, .int .i64 m.ans.id, .int .i64 m.ans.code, .int .i64 m.ans.ver], .int .i64 n] w fun e w' => e = .returned (.bool (mayM m es n)) ∧ Below w.heap.size w w' := by
  obtain ⟨w1, e1, b1, s1, g1⟩ := boxed w (mailCells m (.slice ae es.length ce)) 28
  have E1 := Lib.hid (show w.alloc (.cells #[.int .i64 m.kind, .int .i64 m.frm, .int .i64 m.dst, .int .i64 m.stream, .int .i64 m.epoch, .int .i64 m.view, .int .i64 m.base, .int .i64 m.length, .int .i64 m.stamp, .slice ae es.length ce, .int .i64 m.ord.id, .int .i64 m.ord.stream, .int .i64 m.ord.expect, .int .i64 m.ord.kind, .int .i64 m.ord.arg, .int .i64 m.ans.id, .int .i64 m.ans.code, .int .i64 m.ans.ver] 28) = w1 from e1)
  have R1 := Lib.hid (mail_cells g1)
  obtain ⟨c0, c1, c2, c3, c4, c5, c6, c7, c8, c9, c10, c11, c12, c13, c14, c15, c16, c17⟩ := R1.out
  have HK := Lib.hid (hK.below b1 hK.pos)
  have HE := Lib.hid (he.below b1)
  have HJ := Lib.hid (maj_any n)
  clear e1 g1 he hK
  have hf := (within_no (n := m.frm) (a := 0) (b := n - 1) (.inr (by omega)))
  have HM := Lib.hid (show mayM m es n = false by unfold mayM headM; rw [hf]; simp)
  have hj : (majN n == 0) = false := by unfold majN; rw [hn, beq_eq_false_iff_ne]; have := within_iff.1 hn; simp; omega
  have HB := Lib.hid hn
  clear hn hf
  go_enter Tryd.func19, Tryd.ntmps19
  go_wp2_with fail
  rw [E1.out]
  refine (HJ.out _).mono ?_
  rintro e w2 ⟨rfl, rfl⟩
  go_wp2
  go_ret
  exact ⟨ret_bool (by rw [HM.out]), b1⟩
set_option maxRecDepth 100000 in
set_option maxHeartbeats 8000000 in
theorem may_h2 {B : Nat} {w : World} (m : MNum) (n : Int) {ae : Option Addr} {ce : Nat} {es : List Ent} (hK : KindsAt w) (he : EntsAt B w (.slice ae es.length ce) es) (_hl : es.length ≤ 1000000) (hn : within n 2 7 = true) (ha : 0 ≤ m.frm) (hb : m.frm < n) (hc : ¬ 0 ≤ m.dst) :
    Calls Tryd.prog 19 #[.agg #[.int .i64 m.kind, .int .i64 m.frm, .int .i64 m.dst, .int .i64 m.stream, .int .i64 m.epoch, .int .i64 m.view, .int .i64 m.base, .int .i64 m.length, .int .i64 m.stamp, .slice ae es.length ce, .int .i64 m.ord.id, .int .i64 m.ord.stream, .int .i64 m.ord.expect, .int .i64 m.ord.kind, .int .i64 m.ord.arg, .int .i64 m.ans.id, .int .i64 m.ans.code, .int .i64 m.ans.ver], .int .i64 n] w fun e w' => e = .returned (.bool (mayM m es n)) ∧ Below w.heap.size w w' := by
  obtain ⟨w1, e1, b1, s1, g1⟩ := boxed w (mailCells m (.slice ae es.length ce)) 28
  have E1 := Lib.hid (show w.alloc (.cells #[.int .i64 m.kind, .int .i64 m.frm, .int .i64 m.dst, .int .i64 m.stream, .int .i64 m.epoch, .int .i64 m.view, .int .i64 m.base, .int .i64 m.length, .int .i64 m.stamp, .slice ae es.length ce, .int .i64 m.ord.id, .int .i64 m.ord.stream, .int .i64 m.ord.expect, .int .i64 m.ord.kind, .int .i64 m.ord.arg, .int .i64 m.ans.id, .int .i64 m.ans.code, .int .i64 m.ans.ver] 28) = w1 from e1)
  have R1 := Lib.hid (mail_cells g1)
  obtain ⟨c0, c1, c2, c3, c4, c5, c6, c7, c8, c9, c10, c11, c12, c13, c14, c15, c16, c17⟩ := R1.out
  have HK := Lib.hid (hK.below b1 hK.pos)
  have HE := Lib.hid (he.below b1)
  have HJ := Lib.hid (maj_any n)
  clear e1 g1 he hK
  have hf := (within_no (n := m.dst) (a := 0) (b := n - 1) (.inl (by omega)))
  have HM := Lib.hid (show mayM m es n = false by unfold mayM headM; rw [hf]; simp)
  have hj : (majN n == 0) = false := by unfold majN; rw [hn, beq_eq_false_iff_ne]; have := within_iff.1 hn; simp; omega
  have HB := Lib.hid hn
  clear hn hf
  go_enter Tryd.func19, Tryd.ntmps19
  go_wp2_with fail
  rw [E1.out]
  refine (HJ.out _).mono ?_
  rintro e w2 ⟨rfl, rfl⟩
  go_wp2
  go_ret
  exact ⟨ret_bool (by rw [HM.out]), b1⟩
set_option maxRecDepth 100000 in
set_option maxHeartbeats 8000000 in
theorem may_h3 {B : Nat} {w : World} (m : MNum) (n : Int) {ae : Option Addr} {ce : Nat} {es : List Ent} (hK : KindsAt w) (he : EntsAt B w (.slice ae es.length ce) es) (_hl : es.length ≤ 1000000) (hn : within n 2 7 = true) (ha : 0 ≤ m.frm) (hb : m.frm < n) (hc : 0 ≤ m.dst) (hd : ¬ m.dst < n) :
    Calls Tryd.prog 19 #[.agg #[.int .i64 m.kind, .int .i64 m.frm, .int .i64 m.dst, .int .i64 m.stream, .int .i64 m.epoch, .int .i64 m.view, .int .i64 m.base, .int .i64 m.length, .int .i64 m.stamp, .slice ae es.length ce, .int .i64 m.ord.id, .int .i64 m.ord.stream, .int .i64 m.ord.expect, .int .i64 m.ord.kind, .int .i64 m.ord.arg, .int .i64 m.ans.id, .int .i64 m.ans.code, .int .i64 m.ans.ver], .int .i64 n] w fun e w' => e = .returned (.bool (mayM m es n)) ∧ Below w.heap.size w w' := by
  obtain ⟨w1, e1, b1, s1, g1⟩ := boxed w (mailCells m (.slice ae es.length ce)) 28
  have E1 := Lib.hid (show w.alloc (.cells #[.int .i64 m.kind, .int .i64 m.frm, .int .i64 m.dst, .int .i64 m.stream, .int .i64 m.epoch, .int .i64 m.view, .int .i64 m.base, .int .i64 m.length, .int .i64 m.stamp, .slice ae es.length ce, .int .i64 m.ord.id, .int .i64 m.ord.stream, .int .i64 m.ord.expect, .int .i64 m.ord.kind, .int .i64 m.ord.arg, .int .i64 m.ans.id, .int .i64 m.ans.code, .int .i64 m.ans.ver] 28) = w1 from e1)
  have R1 := Lib.hid (mail_cells g1)
  obtain ⟨c0, c1, c2, c3, c4, c5, c6, c7, c8, c9, c10, c11, c12, c13, c14, c15, c16, c17⟩ := R1.out
  have HK := Lib.hid (hK.below b1 hK.pos)
  have HE := Lib.hid (he.below b1)
  have HJ := Lib.hid (maj_any n)
  clear e1 g1 he hK
  have hf := (within_no (n := m.dst) (a := 0) (b := n - 1) (.inr (by omega)))
  have HM := Lib.hid (show mayM m es n = false by unfold mayM headM; rw [hf]; simp)
  have hj : (majN n == 0) = false := by unfold majN; rw [hn, beq_eq_false_iff_ne]; have := within_iff.1 hn; simp; omega
  have HB := Lib.hid hn
  clear hn hf
  go_enter Tryd.func19, Tryd.ntmps19
  go_wp2_with fail
  rw [E1.out]
  refine (HJ.out _).mono ?_
  rintro e w2 ⟨rfl, rfl⟩
  go_wp2
  go_ret
  exact ⟨ret_bool (by rw [HM.out]), b1⟩
set_option maxRecDepth 100000 in
set_option maxHeartbeats 8000000 in
theorem may_h4 {B : Nat} {w : World} (m : MNum) (n : Int) {ae : Option Addr} {ce : Nat} {es : List Ent} (hK : KindsAt w) (he : EntsAt B w (.slice ae es.length ce) es) (_hl : es.length ≤ 1000000) (hn : within n 2 7 = true) (ha : 0 ≤ m.frm) (hb : m.frm < n) (hc : 0 ≤ m.dst) (hd : m.dst < n) (hk0 : ¬ 0 ≤ m.kind) :
    Calls Tryd.prog 19 #[.agg #[.int .i64 m.kind, .int .i64 m.frm, .int .i64 m.dst, .int .i64 m.stream, .int .i64 m.epoch, .int .i64 m.view, .int .i64 m.base, .int .i64 m.length, .int .i64 m.stamp, .slice ae es.length ce, .int .i64 m.ord.id, .int .i64 m.ord.stream, .int .i64 m.ord.expect, .int .i64 m.ord.kind, .int .i64 m.ord.arg, .int .i64 m.ans.id, .int .i64 m.ans.code, .int .i64 m.ans.ver], .int .i64 n] w fun e w' => e = .returned (.bool (mayM m es n)) ∧ Below w.heap.size w w' := by
  obtain ⟨w1, e1, b1, s1, g1⟩ := boxed w (mailCells m (.slice ae es.length ce)) 28
  have E1 := Lib.hid (show w.alloc (.cells #[.int .i64 m.kind, .int .i64 m.frm, .int .i64 m.dst, .int .i64 m.stream, .int .i64 m.epoch, .int .i64 m.view, .int .i64 m.base, .int .i64 m.length, .int .i64 m.stamp, .slice ae es.length ce, .int .i64 m.ord.id, .int .i64 m.ord.stream, .int .i64 m.ord.expect, .int .i64 m.ord.kind, .int .i64 m.ord.arg, .int .i64 m.ans.id, .int .i64 m.ans.code, .int .i64 m.ans.ver] 28) = w1 from e1)
  have R1 := Lib.hid (mail_cells g1)
  obtain ⟨c0, c1, c2, c3, c4, c5, c6, c7, c8, c9, c10, c11, c12, c13, c14, c15, c16, c17⟩ := R1.out
  have HK := Lib.hid (hK.below b1 hK.pos)
  have HE := Lib.hid (he.below b1)
  have HJ := Lib.hid (maj_any n)
  clear e1 g1 he hK
  have hf := (within_no (n := m.kind) (a := 1) (b := 10) (.inl (by omega)))
  have HM := Lib.hid (show mayM m es n = false by unfold mayM headM; rw [hf]; simp)
  have hj : (majN n == 0) = false := by unfold majN; rw [hn, beq_eq_false_iff_ne]; have := within_iff.1 hn; simp; omega
  have HB := Lib.hid hn
  clear hn hf
  go_enter Tryd.func19, Tryd.ntmps19
  go_wp2_with fail
  rw [E1.out]
  refine (HJ.out _).mono ?_
  rintro e w2 ⟨rfl, rfl⟩
  go_wp2
  go_ret
  exact ⟨ret_bool (by rw [HM.out]), b1⟩
set_option maxRecDepth 100000 in
set_option maxHeartbeats 8000000 in
theorem may_h5 {B : Nat} {w : World} (m : MNum) (n : Int) {ae : Option Addr} {ce : Nat} {es : List Ent} (hK : KindsAt w) (he : EntsAt B w (.slice ae es.length ce) es) (_hl : es.length ≤ 1000000) (hn : within n 2 7 = true) (ha : 0 ≤ m.frm) (hb : m.frm < n) (hc : 0 ≤ m.dst) (hd : m.dst < n) (hk0 : 0 ≤ m.kind) (hk1 : ¬ m.kind < 11) :
    Calls Tryd.prog 19 #[.agg #[.int .i64 m.kind, .int .i64 m.frm, .int .i64 m.dst, .int .i64 m.stream, .int .i64 m.epoch, .int .i64 m.view, .int .i64 m.base, .int .i64 m.length, .int .i64 m.stamp, .slice ae es.length ce, .int .i64 m.ord.id, .int .i64 m.ord.stream, .int .i64 m.ord.expect, .int .i64 m.ord.kind, .int .i64 m.ord.arg, .int .i64 m.ans.id, .int .i64 m.ans.code, .int .i64 m.ans.ver], .int .i64 n] w fun e w' => e = .returned (.bool (mayM m es n)) ∧ Below w.heap.size w w' := by
  obtain ⟨w1, e1, b1, s1, g1⟩ := boxed w (mailCells m (.slice ae es.length ce)) 28
  have E1 := Lib.hid (show w.alloc (.cells #[.int .i64 m.kind, .int .i64 m.frm, .int .i64 m.dst, .int .i64 m.stream, .int .i64 m.epoch, .int .i64 m.view, .int .i64 m.base, .int .i64 m.length, .int .i64 m.stamp, .slice ae es.length ce, .int .i64 m.ord.id, .int .i64 m.ord.stream, .int .i64 m.ord.expect, .int .i64 m.ord.kind, .int .i64 m.ord.arg, .int .i64 m.ans.id, .int .i64 m.ans.code, .int .i64 m.ans.ver] 28) = w1 from e1)
  have R1 := Lib.hid (mail_cells g1)
  obtain ⟨c0, c1, c2, c3, c4, c5, c6, c7, c8, c9, c10, c11, c12, c13, c14, c15, c16, c17⟩ := R1.out
  have HK := Lib.hid (hK.below b1 hK.pos)
  have HE := Lib.hid (he.below b1)
  have HJ := Lib.hid (maj_any n)
  clear e1 g1 he hK
  have hf := (within_no (n := m.kind) (a := 1) (b := 10) (.inr (by omega)))
  have HM := Lib.hid (show mayM m es n = false by unfold mayM headM; rw [hf]; simp)
  have hj : (majN n == 0) = false := by unfold majN; rw [hn, beq_eq_false_iff_ne]; have := within_iff.1 hn; simp; omega
  have HB := Lib.hid hn
  clear hn hf
  go_enter Tryd.func19, Tryd.ntmps19
  go_wp2_with fail
  rw [E1.out]
  refine (HJ.out _).mono ?_
  rintro e w2 ⟨rfl, rfl⟩
  go_wp2
  go_ret
  exact ⟨ret_bool (by rw [HM.out]), b1⟩
set_option maxRecDepth 100000 in
set_option maxHeartbeats 8000000 in
theorem may_h6 {B : Nat} {w : World} (m : MNum) (n : Int) {ae : Option Addr} {ce : Nat} {es : List Ent} (hK : KindsAt w) (he : EntsAt B w (.slice ae es.length ce) es) (_hl : es.length ≤ 1000000) (hn : within n 2 7 = true) (ha : 0 ≤ m.frm) (hb : m.frm < n) (hc : 0 ≤ m.dst) (hd : m.dst < n) (hk : m.kind = 0) :
    Calls Tryd.prog 19 #[.agg #[.int .i64 m.kind, .int .i64 m.frm, .int .i64 m.dst, .int .i64 m.stream, .int .i64 m.epoch, .int .i64 m.view, .int .i64 m.base, .int .i64 m.length, .int .i64 m.stamp, .slice ae es.length ce, .int .i64 m.ord.id, .int .i64 m.ord.stream, .int .i64 m.ord.expect, .int .i64 m.ord.kind, .int .i64 m.ord.arg, .int .i64 m.ans.id, .int .i64 m.ans.code, .int .i64 m.ans.ver], .int .i64 n] w fun e w' => e = .returned (.bool (mayM m es n)) ∧ Below w.heap.size w w' := by
  obtain ⟨w1, e1, b1, s1, g1⟩ := boxed w (mailCells m (.slice ae es.length ce)) 28
  have E1 := Lib.hid (show w.alloc (.cells #[.int .i64 m.kind, .int .i64 m.frm, .int .i64 m.dst, .int .i64 m.stream, .int .i64 m.epoch, .int .i64 m.view, .int .i64 m.base, .int .i64 m.length, .int .i64 m.stamp, .slice ae es.length ce, .int .i64 m.ord.id, .int .i64 m.ord.stream, .int .i64 m.ord.expect, .int .i64 m.ord.kind, .int .i64 m.ord.arg, .int .i64 m.ans.id, .int .i64 m.ans.code, .int .i64 m.ans.ver] 28) = w1 from e1)
  have R1 := Lib.hid (mail_cells g1)
  obtain ⟨c0, c1, c2, c3, c4, c5, c6, c7, c8, c9, c10, c11, c12, c13, c14, c15, c16, c17⟩ := R1.out
  have HK := Lib.hid (hK.below b1 hK.pos)
  have HE := Lib.hid (he.below b1)
  have HJ := Lib.hid (maj_any n)
  clear e1 g1 he hK
  have hf := (within_no (n := m.kind) (a := 1) (b := 10) (.inl (by omega)))
  have HM := Lib.hid (show mayM m es n = false by unfold mayM headM; rw [hf]; simp)
  have hj : (majN n == 0) = false := by unfold majN; rw [hn, beq_eq_false_iff_ne]; have := within_iff.1 hn; simp; omega
  have HB := Lib.hid hn
  obtain ⟨z0, z1, z2, z3, z4, z5, z6, z7, z8, z9, z10⟩ := HK.out
  rw [hk] at c0 E1 ⊢
  clear hn hf hk
  go_enter Tryd.func19, Tryd.ntmps19
  go_wp2_with fail
  rw [E1.out]
  refine (HJ.out _).mono ?_
  rintro e w2 ⟨rfl, rfl⟩
  go_wp2
  go_ret
  exact ⟨ret_bool (by rw [HM.out]), b1⟩
end Go.Proofs.YtnekpehgaojkaaaDoor
