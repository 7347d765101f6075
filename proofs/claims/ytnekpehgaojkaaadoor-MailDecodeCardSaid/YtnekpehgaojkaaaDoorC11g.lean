/- The contract of mail.may, further kinds. (Printed by wip/src/XC11c.py.) -/
import Derived.Test.YtnekpehgaojkaaaDoorC11d
namespace Go.Proofs.YtnekpehgaojkaaaDoor
open Go.RowKit

set_option maxRecDepth 100000 in
set_option maxHeartbeats 8000000 in
theorem may_k6 {B : Nat} {w : World} (m : MNum) (n : Int) {ae : Option Addr} {ce : Nat} {es : List Ent} (hK : KindsAt w) (he : EntsAt B w (.slice ae es.length ce) es) (_hl : es.length ≤ 1000000) (hn : within n 2 7 = true) (h1 : 0 ≤ m.frm) (h2 : m.frm < n) (h3 : 0 ≤ m.dst) (h4 : m.dst < n) (hk : m.kind = 6) :
    Calls Tryd.prog 19 #[.agg #[.int .i64 m.kind, .int .i64 m.frm, .int .i64 m.dst, .int .i64 m.stream, .int .i64 m.epoch, .int .i64 m.view, .int .i64 m.base, .int .i64 m.length, .int .i64 m.stamp, .slice ae es.length ce, .int .i64 m.ord.id, .int .i64 m.ord.stream, .int .i64 m.ord.expect, .int .i64 m.ord.kind, .int .i64 m.ord.arg, .int .i64 m.ans.id, .int .i64 m.ans.code, .int .i64 m.ans.ver], .int .i64 n] w fun e w' => e = .returned (.bool (mayM m es n)) ∧ Below w.heap.size w w' := by
  obtain ⟨w1, e1, b1, s1, g1⟩ := boxed w (mailCells m (.slice ae es.length ce)) 28
  have E1 := Lib.hid (show w.alloc (.cells #[.int .i64 m.kind, .int .i64 m.frm, .int .i64 m.dst, .int .i64 m.stream, .int .i64 m.epoch, .int .i64 m.view, .int .i64 m.base, .int .i64 m.length, .int .i64 m.stamp, .slice ae es.length ce, .int .i64 m.ord.id, .int .i64 m.ord.stream, .int .i64 m.ord.expect, .int .i64 m.ord.kind, .int .i64 m.ord.arg, .int .i64 m.ans.id, .int .i64 m.ans.code, .int .i64 m.ans.ver] 28) = w1 from e1)
  have R1 := Lib.hid (mail_cells g1)
  obtain ⟨c0, c1, c2, c3, c4, c5, c6, c7, c8, c9, c10, c11, c12, c13, c14, c15, c16, c17⟩ := R1.out
  have HK := Lib.hid (hK.below b1 hK.pos)
  have HE := Lib.hid (he.below b1)
  have HJ := Lib.hid (maj_any n)
  clear e1 g1 he hK
  have HM := Lib.hid (show mayM m es n = (within m.stream 0 3 && (within m.epoch 1 1048576 && (within m.view 0 0 && (within m.base 0 0 && (within m.length 0 64 && (within m.stamp 0 0 && (decide (es.length = 0) && (ordZ m.ord && (ansZ m.ans))))))))) by
    have hh : headM m n = true := by unfold headM; rw [hn, within_yes h1 (show m.frm ≤ n - 1 by omega), within_yes h3 (show m.dst ≤ n - 1 by omega), hk]; rfl
    have hs : sMost m.kind = 3 ∧ eLeast m.kind = 1 ∧ eMost m.kind = 1048576 ∧ vMost m.kind = 0 ∧ bMost m.kind = 0 ∧ lMost m.kind = 64 ∧ tMost m.kind = 0 := by rw [hk]; exact ⟨rfl, rfl, rfl, rfl, rfl, rfl, rfl⟩
    obtain ⟨q1, q2, q3, q4, q5, q6, q7⟩ := hs
    unfold mayM fieldsM
    rw [hh, q1, q2, q3, q4, q5, q6, q7]
    simp only [entsM, promM, beside, hk]
    simp)
  have hj : (majN n == 0) = false := by unfold majN; rw [hn, beq_eq_false_iff_ne]; have := within_iff.1 hn; simp; omega
  have HB := Lib.hid hn
  obtain ⟨z0, z1, z2, z3, z4, z5, z6, z7, z8, z9, z10⟩ := HK.out
  have CS := from_any 1 m.stream 0 3
  rw [show fromB 1 m.stream 0 3 = within m.stream 0 3 from rfl] at CS
  have CE := from_any 2 m.epoch 1 1048576
  rw [show fromB 2 m.epoch 1 1048576 = within m.epoch 1 1048576 from rfl] at CE
  have CV := from_any 0 m.view 0 1048576
  rw [show fromB 0 m.view 0 1048576 = within m.view 0 0 from rfl] at CV
  have CB := from_any 0 m.base 0 64
  rw [show fromB 0 m.base 0 64 = within m.base 0 0 from rfl] at CB
  have CL := from_any 16 m.length 0 64
  rw [show fromB 16 m.length 0 64 = within m.length 0 64 from rfl] at CL
  have CT := from_any 0 m.stamp 0 1073741824
  rw [show fromB 0 m.stamp 0 1073741824 = within m.stamp 0 0 from rfl] at CT
  have HKi := Lib.hid hk
  rw [hk] at c0 E1 ⊢
  clear hn hk
  have y1 : bits BinOp.and IntKind.i64 19 1 = 1 := by decide
  have y2 : bits BinOp.and IntKind.i64 19 2 = 2 := by decide
  have y4 : bits BinOp.and IntKind.i64 19 4 = 0 := by decide
  have y8 : bits BinOp.and IntKind.i64 19 8 = 0 := by decide
  have y16 : bits BinOp.and IntKind.i64 19 16 = 16 := by decide
  have y32 : bits BinOp.and IntKind.i64 19 32 = 0 := by decide
  have y64 : bits BinOp.and IntKind.i64 19 64 = 0 := by decide
  have y128 : bits BinOp.and IntKind.i64 19 128 = 0 := by decide
  have y256 : bits BinOp.and IntKind.i64 19 256 = 0 := by decide
  go_enter Tryd.func19, Tryd.ntmps19
  go_wp2_with fail
  rw [E1.out]
  refine (HJ.out _).mono ?_
  rintro e w2 ⟨rfl, rfl⟩
  have DS := Lib.hid CS
  cases hS : within m.stream 0 3 with
  | false =>
    have FS := Lib.hid hS
    rw [hS] at DS
    clear hS
    go_wp2_with fail
    refine (DS.out _).mono ?_
    rintro e w2 ⟨rfl, rfl⟩
    go_wp2
    go_ret
    exact ⟨ret_bool (by rw [HM.out, FS.out]; rfl), b1⟩
  | true =>
    have FS := Lib.hid hS
    rw [hS] at DS
    clear hS
    go_wp2_with fail
    refine (DS.out _).mono ?_
    rintro e w2 ⟨rfl, rfl⟩
    have DE := Lib.hid CE
    cases hE : within m.epoch 1 1048576 with
    | false =>
      have FE := Lib.hid hE
      rw [hE] at DE
      clear hE
      go_wp2_with fail
      refine (DE.out _).mono ?_
      rintro e w2 ⟨rfl, rfl⟩
      go_wp2
      go_ret
      exact ⟨ret_bool (by rw [HM.out, FS.out, FE.out]; rfl), b1⟩
    | true =>
      have FE := Lib.hid hE
      rw [hE] at DE
      clear hE
      go_wp2_with fail
      refine (DE.out _).mono ?_
      rintro e w2 ⟨rfl, rfl⟩
      have DV := Lib.hid CV
      cases hV : within m.view 0 0 with
      | false =>
        have FV := Lib.hid hV
        rw [hV] at DV
        clear hV
        go_wp2_with fail
        refine (DV.out _).mono ?_
        rintro e w2 ⟨rfl, rfl⟩
        go_wp2
        go_ret
        exact ⟨ret_bool (by rw [HM.out, FS.out, FE.out, FV.out]; rfl), b1⟩
      | true =>
        have FV := Lib.hid hV
        rw [hV] at DV
        clear hV
        go_wp2_with fail
        refine (DV.out _).mono ?_
        rintro e w2 ⟨rfl, rfl⟩
        have DB := Lib.hid CB
        cases hB : within m.base 0 0 with
        | false =>
          have FB := Lib.hid hB
          rw [hB] at DB
          clear hB
          go_wp2_with fail
          refine (DB.out _).mono ?_
          rintro e w2 ⟨rfl, rfl⟩
          go_wp2
          go_ret
          exact ⟨ret_bool (by rw [HM.out, FS.out, FE.out, FV.out, FB.out]; rfl), b1⟩
        | true =>
          have FB := Lib.hid hB
          rw [hB] at DB
          clear hB
          go_wp2_with fail
          refine (DB.out _).mono ?_
          rintro e w2 ⟨rfl, rfl⟩
          have DL := Lib.hid CL
          cases hL : within m.length 0 64 with
          | false =>
            have FL := Lib.hid hL
            rw [hL] at DL
            clear hL
            go_wp2_with fail
            refine (DL.out _).mono ?_
            rintro e w2 ⟨rfl, rfl⟩
            go_wp2
            go_ret
            exact ⟨ret_bool (by rw [HM.out, FS.out, FE.out, FV.out, FB.out, FL.out]; rfl), b1⟩
          | true =>
            have FL := Lib.hid hL
            rw [hL] at DL
            clear hL
            go_wp2_with fail
            refine (DL.out _).mono ?_
            rintro e w2 ⟨rfl, rfl⟩
            have DT := Lib.hid CT
            cases hT : within m.stamp 0 0 with
            | false =>
              have FT := Lib.hid hT
              rw [hT] at DT
              clear hT
              go_wp2_with fail
              refine (DT.out _).mono ?_
              rintro e w2 ⟨rfl, rfl⟩
              go_wp2
              go_ret
              exact ⟨ret_bool (by rw [HM.out, FS.out, FE.out, FV.out, FB.out, FL.out, FT.out]; rfl), b1⟩
            | true =>
              have FT := Lib.hid hT
              rw [hT] at DT
              clear hT
              go_wp2_with fail
              refine (DT.out _).mono ?_
              rintro e w2 ⟨rfl, rfl⟩
              by_cases he0 : es.length = 0
              · have Fe := Lib.hid (decide_eq_true he0)
                have de : decide (0 < es.length) = false := decide_eq_false (by omega)
                clear he0
                go_wp2
                all_goals
                  go_ret
                  exact ⟨ret_bool (by rw [HM.out, FS.out, FE.out, FV.out, FB.out, FL.out, FT.out, Fe.out]; simp [ordZ, ansZ, *]), b1⟩
              · have Fe := Lib.hid (decide_eq_false he0)
                have de : decide (0 < es.length) = true := decide_eq_true (by omega)
                clear he0
                go_wp2
                go_ret
                exact ⟨ret_bool (by rw [HM.out, FS.out, FE.out, FV.out, FB.out, FL.out, FT.out, Fe.out]; rfl), b1⟩
set_option maxRecDepth 100000 in
set_option maxHeartbeats 8000000 in
theorem may_k7 {B : Nat} {w : World} (m : MNum) (n : Int) {ae : Option Addr} {ce : Nat} {es : List Ent} (hK : KindsAt w) (he : EntsAt B w (.slice ae es.length ce) es) (_hl : es.length ≤ 1000000) (hn : within n 2 7 = true) (h1 : 0 ≤ m.frm) (h2 : m.frm < n) (h3 : 0 ≤ m.dst) (h4 : m.dst < n) (hk : m.kind = 7) :
    Calls Tryd.prog 19 #[.agg #[.int .i64 m.kind, .int .i64 m.frm, .int .i64 m.dst, .int .i64 m.stream, .int .i64 m.epoch, .int .i64 m.view, .int .i64 m.base, .int .i64 m.length, .int .i64 m.stamp, .slice ae es.length ce, .int .i64 m.ord.id, .int .i64 m.ord.stream, .int .i64 m.ord.expect, .int .i64 m.ord.kind, .int .i64 m.ord.arg, .int .i64 m.ans.id, .int .i64 m.ans.code, .int .i64 m.ans.ver], .int .i64 n] w fun e w' => e = .returned (.bool (mayM m es n)) ∧ Below w.heap.size w w' := by
  obtain ⟨w1, e1, b1, s1, g1⟩ := boxed w (mailCells m (.slice ae es.length ce)) 28
  have E1 := Lib.hid (show w.alloc (.cells #[.int .i64 m.kind, .int .i64 m.frm, .int .i64 m.dst, .int .i64 m.stream, .int .i64 m.epoch, .int .i64 m.view, .int .i64 m.base, .int .i64 m.length, .int .i64 m.stamp, .slice ae es.length ce, .int .i64 m.ord.id, .int .i64 m.ord.stream, .int .i64 m.ord.expect, .int .i64 m.ord.kind, .int .i64 m.ord.arg, .int .i64 m.ans.id, .int .i64 m.ans.code, .int .i64 m.ans.ver] 28) = w1 from e1)
  have R1 := Lib.hid (mail_cells g1)
  obtain ⟨c0, c1, c2, c3, c4, c5, c6, c7, c8, c9, c10, c11, c12, c13, c14, c15, c16, c17⟩ := R1.out
  have HK := Lib.hid (hK.below b1 hK.pos)
  have HE := Lib.hid (he.below b1)
  have HJ := Lib.hid (maj_any n)
  clear e1 g1 he hK
  have HM := Lib.hid (show mayM m es n = (within m.stream 0 0 && (within m.epoch 0 0 && (within m.view 0 0 && (within m.base 0 0 && (within m.length 0 0 && (within m.stamp 0 0 && (decide (es.length = 0) && (mayB m.ord && (ansZ m.ans))))))))) by
    have hh : headM m n = true := by unfold headM; rw [hn, within_yes h1 (show m.frm ≤ n - 1 by omega), within_yes h3 (show m.dst ≤ n - 1 by omega), hk]; rfl
    have hs : sMost m.kind = 0 ∧ eLeast m.kind = 0 ∧ eMost m.kind = 0 ∧ vMost m.kind = 0 ∧ bMost m.kind = 0 ∧ lMost m.kind = 0 ∧ tMost m.kind = 0 := by rw [hk]; exact ⟨rfl, rfl, rfl, rfl, rfl, rfl, rfl⟩
    obtain ⟨q1, q2, q3, q4, q5, q6, q7⟩ := hs
    unfold mayM fieldsM
    rw [hh, q1, q2, q3, q4, q5, q6, q7]
    simp only [entsM, promM, beside, hk]
    simp)
  have hj : (majN n == 0) = false := by unfold majN; rw [hn, beq_eq_false_iff_ne]; have := within_iff.1 hn; simp; omega
  have HB := Lib.hid hn
  obtain ⟨z0, z1, z2, z3, z4, z5, z6, z7, z8, z9, z10⟩ := HK.out
  have CS := from_any 0 m.stream 0 3
  rw [show fromB 0 m.stream 0 3 = within m.stream 0 0 from rfl] at CS
  have CE := from_any 0 m.epoch 1 1048576
  rw [show fromB 0 m.epoch 1 1048576 = within m.epoch 0 0 from rfl] at CE
  have CV := from_any 0 m.view 0 1048576
  rw [show fromB 0 m.view 0 1048576 = within m.view 0 0 from rfl] at CV
  have CB := from_any 0 m.base 0 64
  rw [show fromB 0 m.base 0 64 = within m.base 0 0 from rfl] at CB
  have CL := from_any 0 m.length 0 64
  rw [show fromB 0 m.length 0 64 = within m.length 0 0 from rfl] at CL
  have CT := from_any 0 m.stamp 0 1073741824
  rw [show fromB 0 m.stamp 0 1073741824 = within m.stamp 0 0 from rfl] at CT
  have HKi := Lib.hid hk
  rw [hk] at c0 E1 ⊢
  clear hn hk
  have y1 : bits BinOp.and IntKind.i64 128 1 = 0 := by decide
  have y2 : bits BinOp.and IntKind.i64 128 2 = 0 := by decide
  have y4 : bits BinOp.and IntKind.i64 128 4 = 0 := by decide
  have y8 : bits BinOp.and IntKind.i64 128 8 = 0 := by decide
  have y16 : bits BinOp.and IntKind.i64 128 16 = 0 := by decide
  have y32 : bits BinOp.and IntKind.i64 128 32 = 0 := by decide
  have y64 : bits BinOp.and IntKind.i64 128 64 = 0 := by decide
  have y128 : bits BinOp.and IntKind.i64 128 128 = 128 := by decide
  have y256 : bits BinOp.and IntKind.i64 128 256 = 0 := by decide
  go_enter Tryd.func19, Tryd.ntmps19
  go_wp2_with fail
  rw [E1.out]
  refine (HJ.out _).mono ?_
  rintro e w2 ⟨rfl, rfl⟩
  have DS := Lib.hid CS
  cases hS : within m.stream 0 0 with
  | false =>
    have FS := Lib.hid hS
    rw [hS] at DS
    clear hS
    go_wp2_with fail
    refine (DS.out _).mono ?_
    rintro e w2 ⟨rfl, rfl⟩
    go_wp2
    go_ret
    exact ⟨ret_bool (by rw [HM.out, FS.out]; rfl), b1⟩
  | true =>
    have FS := Lib.hid hS
    rw [hS] at DS
    clear hS
    go_wp2_with fail
    refine (DS.out _).mono ?_
    rintro e w2 ⟨rfl, rfl⟩
    have DE := Lib.hid CE
    cases hE : within m.epoch 0 0 with
    | false =>
      have FE := Lib.hid hE
      rw [hE] at DE
      clear hE
      go_wp2_with fail
      refine (DE.out _).mono ?_
      rintro e w2 ⟨rfl, rfl⟩
      go_wp2
      go_ret
      exact ⟨ret_bool (by rw [HM.out, FS.out, FE.out]; rfl), b1⟩
    | true =>
      have FE := Lib.hid hE
      rw [hE] at DE
      clear hE
      go_wp2_with fail
      refine (DE.out _).mono ?_
      rintro e w2 ⟨rfl, rfl⟩
      have DV := Lib.hid CV
      cases hV : within m.view 0 0 with
      | false =>
        have FV := Lib.hid hV
        rw [hV] at DV
        clear hV
        go_wp2_with fail
        refine (DV.out _).mono ?_
        rintro e w2 ⟨rfl, rfl⟩
        go_wp2
        go_ret
        exact ⟨ret_bool (by rw [HM.out, FS.out, FE.out, FV.out]; rfl), b1⟩
      | true =>
        have FV := Lib.hid hV
        rw [hV] at DV
        clear hV
        go_wp2_with fail
        refine (DV.out _).mono ?_
        rintro e w2 ⟨rfl, rfl⟩
        have DB := Lib.hid CB
        cases hB : within m.base 0 0 with
        | false =>
          have FB := Lib.hid hB
          rw [hB] at DB
          clear hB
          go_wp2_with fail
          refine (DB.out _).mono ?_
          rintro e w2 ⟨rfl, rfl⟩
          go_wp2
          go_ret
          exact ⟨ret_bool (by rw [HM.out, FS.out, FE.out, FV.out, FB.out]; rfl), b1⟩
        | true =>
          have FB := Lib.hid hB
          rw [hB] at DB
          clear hB
          go_wp2_with fail
          refine (DB.out _).mono ?_
          rintro e w2 ⟨rfl, rfl⟩
          have DL := Lib.hid CL
          cases hL : within m.length 0 0 with
          | false =>
            have FL := Lib.hid hL
            rw [hL] at DL
            clear hL
            go_wp2_with fail
            refine (DL.out _).mono ?_
            rintro e w2 ⟨rfl, rfl⟩
            go_wp2
            go_ret
            exact ⟨ret_bool (by rw [HM.out, FS.out, FE.out, FV.out, FB.out, FL.out]; rfl), b1⟩
          | true =>
            have FL := Lib.hid hL
            rw [hL] at DL
            clear hL
            go_wp2_with fail
            refine (DL.out _).mono ?_
            rintro e w2 ⟨rfl, rfl⟩
            have DT := Lib.hid CT
            cases hT : within m.stamp 0 0 with
            | false =>
              have FT := Lib.hid hT
              rw [hT] at DT
              clear hT
              go_wp2_with fail
              refine (DT.out _).mono ?_
              rintro e w2 ⟨rfl, rfl⟩
              go_wp2
              go_ret
              exact ⟨ret_bool (by rw [HM.out, FS.out, FE.out, FV.out, FB.out, FL.out, FT.out]; rfl), b1⟩
            | true =>
              have FT := Lib.hid hT
              rw [hT] at DT
              clear hT
              go_wp2_with fail
              refine (DT.out _).mono ?_
              rintro e w2 ⟨rfl, rfl⟩
              by_cases he0 : es.length = 0
              · have Fe := Lib.hid (decide_eq_true he0)
                have de : decide (0 < es.length) = false := decide_eq_false (by omega)
                clear he0
                have DO := Lib.hid (check_is m.ord)
                cases hO : mayB m.ord with
                | false =>
                  have FO := Lib.hid hO
                  rw [hO] at DO
                  clear hO
                  go_wp2_with fail
                  refine (DO.out _).mono ?_
                  rintro e wo ⟨rfl, bo⟩
                  have B3 := b1.trans (bo.mono b1.size)
                  go_wp2
                  go_ret
                  exact ⟨ret_bool (by rw [HM.out, FS.out, FE.out, FV.out, FB.out, FL.out, FT.out, Fe.out, FO.out]; rfl), B3⟩
                | true =>
                  have FO := Lib.hid hO
                  rw [hO] at DO
                  clear hO
                  go_wp2_with fail
                  refine (DO.out _).mono ?_
                  rintro e wo ⟨rfl, bo⟩
                  have B3 := b1.trans (bo.mono b1.size)
                  clear c0 c1 c2 c3 c4 c5 c6 c7 c8 c9 c10 c11 c12 c13 c14 c15 c16 c17
                  obtain ⟨c0, c1, c2, c3, c4, c5, c6, c7, c8, c9, c10, c11, c12, c13, c14, c15, c16, c17⟩ := R1.out.below (by omega) bo
                  go_wp2
                  all_goals
                    go_ret
                    exact ⟨ret_bool (by rw [HM.out, FS.out, FE.out, FV.out, FB.out, FL.out, FT.out, Fe.out, FO.out]; simp [ansZ, *]), B3⟩
              · have Fe := Lib.hid (decide_eq_false he0)
                have de : decide (0 < es.length) = true := decide_eq_true (by omega)
                clear he0
                go_wp2
                go_ret
                exact ⟨ret_bool (by rw [HM.out, FS.out, FE.out, FV.out, FB.out, FL.out, FT.out, Fe.out]; rfl), b1⟩
set_option maxRecDepth 100000 in
set_option maxHeartbeats 8000000 in
theorem may_k8 {B : Nat} {w : World} (m : MNum) (n : Int) {ae : Option Addr} {ce : Nat} {es : List Ent} (hK : KindsAt w) (he : EntsAt B w (.slice ae es.length ce) es) (_hl : es.length ≤ 1000000) (hn : within n 2 7 = true) (h1 : 0 ≤ m.frm) (h2 : m.frm < n) (h3 : 0 ≤ m.dst) (h4 : m.dst < n) (hk : m.kind = 8) :
    Calls Tryd.prog 19 #[.agg #[.int .i64 m.kind, .int .i64 m.frm, .int .i64 m.dst, .int .i64 m.stream, .int .i64 m.epoch, .int .i64 m.view, .int .i64 m.base, .int .i64 m.length, .int .i64 m.stamp, .slice ae es.length ce, .int .i64 m.ord.id, .int .i64 m.ord.stream, .int .i64 m.ord.expect, .int .i64 m.ord.kind, .int .i64 m.ord.arg, .int .i64 m.ans.id, .int .i64 m.ans.code, .int .i64 m.ans.ver], .int .i64 n] w fun e w' => e = .returned (.bool (mayM m es n)) ∧ Below w.heap.size w w' := by
  obtain ⟨w1, e1, b1, s1, g1⟩ := boxed w (mailCells m (.slice ae es.length ce)) 28
  have E1 := Lib.hid (show w.alloc (.cells #[.int .i64 m.kind, .int .i64 m.frm, .int .i64 m.dst, .int .i64 m.stream, .int .i64 m.epoch, .int .i64 m.view, .int .i64 m.base, .int .i64 m.length, .int .i64 m.stamp, .slice ae es.length ce, .int .i64 m.ord.id, .int .i64 m.ord.stream, .int .i64 m.ord.expect, .int .i64 m.ord.kind, .int .i64 m.ord.arg, .int .i64 m.ans.id, .int .i64 m.ans.code, .int .i64 m.ans.ver] 28) = w1 from e1)
  have R1 := Lib.hid (mail_cells g1)
  obtain ⟨c0, c1, c2, c3, c4, c5, c6, c7, c8, c9, c10, c11, c12, c13, c14, c15, c16, c17⟩ := R1.out
  have HK := Lib.hid (hK.below b1 hK.pos)
  have HE := Lib.hid (he.below b1)
  have HJ := Lib.hid (maj_any n)
  clear e1 g1 he hK
  have HM := Lib.hid (show mayM m es n = (within m.stream 0 3 && (within m.epoch 0 0 && (within m.view 0 0 && (within m.base 0 0 && (within m.length 0 0 && (within m.stamp 0 0 && (decide (es.length = 0) && (toldB m.ans && (ordZ m.ord))))))))) by
    have hh : headM m n = true := by unfold headM; rw [hn, within_yes h1 (show m.frm ≤ n - 1 by omega), within_yes h3 (show m.dst ≤ n - 1 by omega), hk]; rfl
    have hs : sMost m.kind = 3 ∧ eLeast m.kind = 0 ∧ eMost m.kind = 0 ∧ vMost m.kind = 0 ∧ bMost m.kind = 0 ∧ lMost m.kind = 0 ∧ tMost m.kind = 0 := by rw [hk]; exact ⟨rfl, rfl, rfl, rfl, rfl, rfl, rfl⟩
    obtain ⟨q1, q2, q3, q4, q5, q6, q7⟩ := hs
    unfold mayM fieldsM
    rw [hh, q1, q2, q3, q4, q5, q6, q7]
    simp only [entsM, promM, beside, hk]
    simp)
  have hj : (majN n == 0) = false := by unfold majN; rw [hn, beq_eq_false_iff_ne]; have := within_iff.1 hn; simp; omega
  have HB := Lib.hid hn
  obtain ⟨z0, z1, z2, z3, z4, z5, z6, z7, z8, z9, z10⟩ := HK.out
  have CS := from_any 1 m.stream 0 3
  rw [show fromB 1 m.stream 0 3 = within m.stream 0 3 from rfl] at CS
  have CE := from_any 0 m.epoch 1 1048576
  rw [show fromB 0 m.epoch 1 1048576 = within m.epoch 0 0 from rfl] at CE
  have CV := from_any 0 m.view 0 1048576
  rw [show fromB 0 m.view 0 1048576 = within m.view 0 0 from rfl] at CV
  have CB := from_any 0 m.base 0 64
  rw [show fromB 0 m.base 0 64 = within m.base 0 0 from rfl] at CB
  have CL := from_any 0 m.length 0 64
  rw [show fromB 0 m.length 0 64 = within m.length 0 0 from rfl] at CL
  have CT := from_any 0 m.stamp 0 1073741824
  rw [show fromB 0 m.stamp 0 1073741824 = within m.stamp 0 0 from rfl] at CT
  have HKi := Lib.hid hk
  rw [hk] at c0 E1 ⊢
  clear hn hk
  have y1 : bits BinOp.and IntKind.i64 257 1 = 1 := by decide
  have y2 : bits BinOp.and IntKind.i64 257 2 = 0 := by decide
  have y4 : bits BinOp.and IntKind.i64 257 4 = 0 := by decide
  have y8 : bits BinOp.and IntKind.i64 257 8 = 0 := by decide
  have y16 : bits BinOp.and IntKind.i64 257 16 = 0 := by decide
  have y32 : bits BinOp.and IntKind.i64 257 32 = 0 := by decide
  have y64 : bits BinOp.and IntKind.i64 257 64 = 0 := by decide
  have y128 : bits BinOp.and IntKind.i64 257 128 = 0 := by decide
  have y256 : bits BinOp.and IntKind.i64 257 256 = 256 := by decide
  go_enter Tryd.func19, Tryd.ntmps19
  go_wp2_with fail
  rw [E1.out]
  refine (HJ.out _).mono ?_
  rintro e w2 ⟨rfl, rfl⟩
  have DS := Lib.hid CS
  cases hS : within m.stream 0 3 with
  | false =>
    have FS := Lib.hid hS
    rw [hS] at DS
    clear hS
    go_wp2_with fail
    refine (DS.out _).mono ?_
    rintro e w2 ⟨rfl, rfl⟩
    go_wp2
    go_ret
    exact ⟨ret_bool (by rw [HM.out, FS.out]; rfl), b1⟩
  | true =>
    have FS := Lib.hid hS
    rw [hS] at DS
    clear hS
    go_wp2_with fail
    refine (DS.out _).mono ?_
    rintro e w2 ⟨rfl, rfl⟩
    have DE := Lib.hid CE
    cases hE : within m.epoch 0 0 with
    | false =>
      have FE := Lib.hid hE
      rw [hE] at DE
      clear hE
      go_wp2_with fail
      refine (DE.out _).mono ?_
      rintro e w2 ⟨rfl, rfl⟩
      go_wp2
      go_ret
      exact ⟨ret_bool (by rw [HM.out, FS.out, FE.out]; rfl), b1⟩
    | true =>
      have FE := Lib.hid hE
      rw [hE] at DE
      clear hE
      go_wp2_with fail
      refine (DE.out _).mono ?_
      rintro e w2 ⟨rfl, rfl⟩
      have DV := Lib.hid CV
      cases hV : within m.view 0 0 with
      | false =>
        have FV := Lib.hid hV
        rw [hV] at DV
        clear hV
        go_wp2_with fail
        refine (DV.out _).mono ?_
        rintro e w2 ⟨rfl, rfl⟩
        go_wp2
        go_ret
        exact ⟨ret_bool (by rw [HM.out, FS.out, FE.out, FV.out]; rfl), b1⟩
      | true =>
        have FV := Lib.hid hV
        rw [hV] at DV
        clear hV
        go_wp2_with fail
        refine (DV.out _).mono ?_
        rintro e w2 ⟨rfl, rfl⟩
        have DB := Lib.hid CB
        cases hB : within m.base 0 0 with
        | false =>
          have FB := Lib.hid hB
          rw [hB] at DB
          clear hB
          go_wp2_with fail
          refine (DB.out _).mono ?_
          rintro e w2 ⟨rfl, rfl⟩
          go_wp2
          go_ret
          exact ⟨ret_bool (by rw [HM.out, FS.out, FE.out, FV.out, FB.out]; rfl), b1⟩
        | true =>
          have FB := Lib.hid hB
          rw [hB] at DB
          clear hB
          go_wp2_with fail
          refine (DB.out _).mono ?_
          rintro e w2 ⟨rfl, rfl⟩
          have DL := Lib.hid CL
          cases hL : within m.length 0 0 with
          | false =>
            have FL := Lib.hid hL
            rw [hL] at DL
            clear hL
            go_wp2_with fail
            refine (DL.out _).mono ?_
            rintro e w2 ⟨rfl, rfl⟩
            go_wp2
            go_ret
            exact ⟨ret_bool (by rw [HM.out, FS.out, FE.out, FV.out, FB.out, FL.out]; rfl), b1⟩
          | true =>
            have FL := Lib.hid hL
            rw [hL] at DL
            clear hL
            go_wp2_with fail
            refine (DL.out _).mono ?_
            rintro e w2 ⟨rfl, rfl⟩
            have DT := Lib.hid CT
            cases hT : within m.stamp 0 0 with
            | false =>
              have FT := Lib.hid hT
              rw [hT] at DT
              clear hT
              go_wp2_with fail
              refine (DT.out _).mono ?_
              rintro e w2 ⟨rfl, rfl⟩
              go_wp2
              go_ret
              exact ⟨ret_bool (by rw [HM.out, FS.out, FE.out, FV.out, FB.out, FL.out, FT.out]; rfl), b1⟩
            | true =>
              have FT := Lib.hid hT
              rw [hT] at DT
              clear hT
              go_wp2_with fail
              refine (DT.out _).mono ?_
              rintro e w2 ⟨rfl, rfl⟩
              by_cases he0 : es.length = 0
              · have Fe := Lib.hid (decide_eq_true he0)
                have de : decide (0 < es.length) = false := decide_eq_false (by omega)
                clear he0
                have DA := Lib.hid (told_any m.ans)
                cases hA : toldB m.ans with
                | false =>
                  have FA := Lib.hid hA
                  rw [hA] at DA
                  clear hA
                  go_wp2_with fail
                  refine (DA.out _).mono ?_
                  rintro e wo ⟨rfl, bo⟩
                  have B3 := b1.trans (bo.mono b1.size)
                  go_wp2
                  go_ret
                  exact ⟨ret_bool (by rw [HM.out, FS.out, FE.out, FV.out, FB.out, FL.out, FT.out, Fe.out, FA.out]; rfl), B3⟩
                | true =>
                  have FA := Lib.hid hA
                  rw [hA] at DA
                  clear hA
                  go_wp2_with fail
                  refine (DA.out _).mono ?_
                  rintro e wo ⟨rfl, bo⟩
                  have B3 := b1.trans (bo.mono b1.size)
                  clear c0 c1 c2 c3 c4 c5 c6 c7 c8 c9 c10 c11 c12 c13 c14 c15 c16 c17
                  obtain ⟨c0, c1, c2, c3, c4, c5, c6, c7, c8, c9, c10, c11, c12, c13, c14, c15, c16, c17⟩ := R1.out.below (by omega) bo
                  go_wp2
                  all_goals
                    go_ret
                    exact ⟨ret_bool (by rw [HM.out, FS.out, FE.out, FV.out, FB.out, FL.out, FT.out, Fe.out, FA.out]; simp [ordZ, *]), B3⟩
              · have Fe := Lib.hid (decide_eq_false he0)
                have de : decide (0 < es.length) = true := decide_eq_true (by omega)
                clear he0
                go_wp2
                go_ret
                exact ⟨ret_bool (by rw [HM.out, FS.out, FE.out, FV.out, FB.out, FL.out, FT.out, Fe.out]; rfl), b1⟩
end Go.Proofs.YtnekpehgaojkaaaDoor
