/- The reference's May of records. (Printed by wip/src/XC10v.py.) -/
import Derived.Test.YtalilifegclelaaC10u
import Derived.Deep.DeepCutAuto
namespace Go.Proofs.Ytalilifegclelaa
open Go.RowKit

set_option maxRecDepth 100000 in
set_option maxHeartbeats 8000000 in
theorem refMay_k1 {B : Nat} {w : World} (n : RNum) {ae af : Option Addr} {ce cf : Nat} {es : List Ent} {fs : List Spt} (he : EntsAt B w (.slice ae es.length ce) es) (hf : SptsAt B w (.slice af fs.length cf) fs) (_hl : es.length ≤ 1000000) (hlf : fs.length ≤ 1000000) (hk : n.kind = 1) :
    Calls Try.prog 26 #[.agg #[.int .i64 n.kind, .int .i64 n.stream, .int .i64 n.epoch, .int .i64 n.view, .int .i64 n.frm, .int .i64 n.length, .slice ae es.length ce, .slice af fs.length cf]] w fun e w' => e = .returned (.bool (mayR n es fs)) ∧ Below w.heap.size w w' := by
  obtain ⟨w1, e1, b1, s1, g1⟩ := boxed w (recCells n (.slice ae es.length ce) (.slice af fs.length cf)) 25
  have E1 := Lib.hid (show w.alloc (.cells #[.int .i64 n.kind, .int .i64 n.stream, .int .i64 n.epoch, .int .i64 n.view, .int .i64 n.frm, .int .i64 n.length, .slice ae es.length ce, .slice af fs.length cf] 25) = w1 from e1)
  obtain ⟨c0, c1, c2, c3, c4, c5, c6, c7⟩ := rec_cells g1
  have HE := Lib.hid (he.below b1)
  have HF := Lib.hid (hf.below b1)
  clear e1 g1 he hf
  have HM := Lib.hid (show mayR n es fs = (within n.stream 0 3 && (decide (fs.length = 0) && (within n.epoch 1 1048576 && ((n.view == 0) && ((n.frm == 0) && ((n.length == 0) && (decide (es.length = 0)))))))) by
    rw [Bool.eq_iff_iff]
    simp only [mayR, kindGood, bareB, within, hk]
    generalize es.length = x
    generalize fs.length = y
    simp
    omega)
  have d5 : (n.kind != 5) = true := by rw [hk]; rfl
  have k1 : (n.kind == 1) = true := by rw [hk]; rfl
  have k2 : (n.kind == 2) = false := by rw [hk]; rfl
  have k3 : (n.kind == 3) = false := by rw [hk]; rfl
  have k4 : (n.kind == 4) = false := by rw [hk]; rfl
  have k5 : (n.kind == 5) = false := by rw [hk]; rfl
  clear hk
  go_enter Try.func26, Try.ntmps26
  go_wp2_with fail
  rw [E1.out]
  have CS := Lib.hid (refStream_any n.stream)
  cases hS : within n.stream 0 3 with
  | false =>
    have FS := Lib.hid hS
    rw [hS] at CS
    clear hS
    go_wp2_with fail
    refine (CS.out _).mono ?_
    rintro e w2 ⟨rfl, rfl⟩
    go_wp2
    go_ret
    exact ⟨ret_bool (by rw [HM.out, FS.out]; rfl), b1⟩
  | true =>
    have FS := Lib.hid hS
    rw [hS] at CS
    clear hS
    go_wp2_with fail
    refine (CS.out _).mono ?_
    rintro e w2 ⟨rfl, rfl⟩
    by_cases hs0 : fs.length = 0
    · have Fs0 := Lib.hid (decide_eq_true hs0)
      have ds0 : decide (0 < fs.length) = false := decide_eq_false (by omega)
      clear hs0
      have CE := Lib.hid (refEpoch_any n.epoch 1)
      cases hE : within n.epoch 1 1048576 with
      | false =>
        have FE := Lib.hid hE
        rw [hE] at CE
        clear hE
        go_wp2_with fail
        refine (CE.out _).mono ?_
        rintro e w2 ⟨rfl, rfl⟩
        go_wp2
        go_ret
        exact ⟨ret_bool (by rw [HM.out, FS.out, Fs0.out, FE.out]; rfl), b1⟩
      | true =>
        have FE := Lib.hid hE
        rw [hE] at CE
        clear hE
        go_wp2_with fail
        refine (CE.out _).mono ?_
        rintro e w2 ⟨rfl, rfl⟩
        by_cases hv : n.view = 0
        · have Bv : (n.view == 0) = true := by rw [beq_iff_eq]; exact hv
          have Fv := Lib.hid Bv
          clear hv
          by_cases hf : n.frm = 0
          · have Bf : (n.frm == 0) = true := by rw [beq_iff_eq]; exact hf
            have Ff := Lib.hid Bf
            clear hf
            by_cases hg : n.length = 0
            · have Bg : (n.length == 0) = true := by rw [beq_iff_eq]; exact hg
              have Fg := Lib.hid Bg
              clear hg
              by_cases he0 : es.length = 0
              · have de0 : ((es.length : Int) == 0) = true := by rw [beq_iff_eq]; omega
                have Fe0 := Lib.hid (decide_eq_true he0)
                clear he0
                go_wp2
                go_ret
                exact ⟨ret_bool (by rw [HM.out, FS.out, Fs0.out, FE.out, Fv.out, Ff.out, Fg.out, Fe0.out]; rfl), b1⟩
              · have de0 : ((es.length : Int) == 0) = false := by rw [beq_eq_false_iff_ne]; omega
                have Fe0 := Lib.hid (decide_eq_false he0)
                clear he0
                go_wp2
                go_ret
                exact ⟨ret_bool (by rw [HM.out, FS.out, Fs0.out, FE.out, Fv.out, Ff.out, Fg.out, Fe0.out]; rfl), b1⟩
            · have Bg : (n.length == 0) = false := by rw [beq_eq_false_iff_ne]; exact hg
              have Fg := Lib.hid Bg
              clear hg
              go_wp2
              go_ret
              exact ⟨ret_bool (by rw [HM.out, FS.out, Fs0.out, FE.out, Fv.out, Ff.out, Fg.out]; rfl), b1⟩
          · have Bf : (n.frm == 0) = false := by rw [beq_eq_false_iff_ne]; exact hf
            have Ff := Lib.hid Bf
            clear hf
            go_wp2
            go_ret
            exact ⟨ret_bool (by rw [HM.out, FS.out, Fs0.out, FE.out, Fv.out, Ff.out]; rfl), b1⟩
        · have Bv : (n.view == 0) = false := by rw [beq_eq_false_iff_ne]; exact hv
          have Fv := Lib.hid Bv
          clear hv
          go_wp2
          go_ret
          exact ⟨ret_bool (by rw [HM.out, FS.out, Fs0.out, FE.out, Fv.out]; rfl), b1⟩
    · have Fs0 := Lib.hid (decide_eq_false hs0)
      have ds0 : decide (0 < fs.length) = true := decide_eq_true (by omega)
      clear hs0
      go_wp2
      go_ret
      exact ⟨ret_bool (by rw [HM.out, FS.out, Fs0.out]; rfl), b1⟩
set_option maxRecDepth 100000 in
set_option maxHeartbeats 8000000 in
theorem refMay_k2 {B : Nat} {w : World} (n : RNum) {ae af : Option Addr} {ce cf : Nat} {es : List Ent} {fs : List Spt} (he : EntsAt B w (.slice ae es.length ce) es) (hf : SptsAt B w (.slice af fs.length cf) fs) (_hl : es.length ≤ 1000000) (hlf : fs.length ≤ 1000000) (hk : n.kind = 2) :
    Calls Try.prog 26 #[.agg #[.int .i64 n.kind, .int .i64 n.stream, .int .i64 n.epoch, .int .i64 n.view, .int .i64 n.frm, .int .i64 n.length, .slice ae es.length ce, .slice af fs.length cf]] w fun e w' => e = .returned (.bool (mayR n es fs)) ∧ Below w.heap.size w w' := by
  obtain ⟨w1, e1, b1, s1, g1⟩ := boxed w (recCells n (.slice ae es.length ce) (.slice af fs.length cf)) 25
  have E1 := Lib.hid (show w.alloc (.cells #[.int .i64 n.kind, .int .i64 n.stream, .int .i64 n.epoch, .int .i64 n.view, .int .i64 n.frm, .int .i64 n.length, .slice ae es.length ce, .slice af fs.length cf] 25) = w1 from e1)
  obtain ⟨c0, c1, c2, c3, c4, c5, c6, c7⟩ := rec_cells g1
  have HE := Lib.hid (he.below b1)
  have HF := Lib.hid (hf.below b1)
  clear e1 g1 he hf
  have HM := Lib.hid (show mayR n es fs = (within n.stream 0 3 && (decide (fs.length = 0) && (within n.epoch 1 1048576 && ((n.view == 0) && (decide (0 ≤ n.frm) && (decide (n.frm ≤ 64) && ((n.length == 0) && ((decide ((es.length : Int) ≤ 64 - n.frm) && allGood n.stream es))))))))) by
    rw [Bool.eq_iff_iff]
    simp only [mayR, kindGood, bareB, within, logGood, hk]
    generalize allGood n.stream es = g
    generalize es.length = x
    generalize fs.length = y
    simp
    cases g <;> simp <;> omega)
  have d5 : (n.kind != 5) = true := by rw [hk]; rfl
  have k1 : (n.kind == 1) = false := by rw [hk]; rfl
  have k2 : (n.kind == 2) = true := by rw [hk]; rfl
  have k3 : (n.kind == 3) = false := by rw [hk]; rfl
  have k4 : (n.kind == 4) = false := by rw [hk]; rfl
  have k5 : (n.kind == 5) = false := by rw [hk]; rfl
  clear hk
  go_enter Try.func26, Try.ntmps26
  go_wp2_with fail
  rw [E1.out]
  have CS := Lib.hid (refStream_any n.stream)
  cases hS : within n.stream 0 3 with
  | false =>
    have FS := Lib.hid hS
    rw [hS] at CS
    clear hS
    go_wp2_with fail
    refine (CS.out _).mono ?_
    rintro e w2 ⟨rfl, rfl⟩
    go_wp2
    go_ret
    exact ⟨ret_bool (by rw [HM.out, FS.out]; rfl), b1⟩
  | true =>
    have FS := Lib.hid hS
    rw [hS] at CS
    clear hS
    go_wp2_with fail
    refine (CS.out _).mono ?_
    rintro e w2 ⟨rfl, rfl⟩
    by_cases hs0 : fs.length = 0
    · have Fs0 := Lib.hid (decide_eq_true hs0)
      have ds0 : decide (0 < fs.length) = false := decide_eq_false (by omega)
      clear hs0
      have CE := Lib.hid (refEpoch_any n.epoch 1)
      cases hE : within n.epoch 1 1048576 with
      | false =>
        have FE := Lib.hid hE
        rw [hE] at CE
        clear hE
        go_wp2_with fail
        refine (CE.out _).mono ?_
        rintro e w2 ⟨rfl, rfl⟩
        go_wp2
        go_ret
        exact ⟨ret_bool (by rw [HM.out, FS.out, Fs0.out, FE.out]; rfl), b1⟩
      | true =>
        have FE := Lib.hid hE
        rw [hE] at CE
        clear hE
        go_wp2_with fail
        refine (CE.out _).mono ?_
        rintro e w2 ⟨rfl, rfl⟩
        by_cases hv : n.view = 0
        · have Bv : (n.view == 0) = true := by rw [beq_iff_eq]; exact hv
          have Fv := Lib.hid Bv
          clear hv
          by_cases hq3 : 0 ≤ n.frm
          · have dq3 : decide (0 ≤ n.frm) = true := decide_eq_true hq3
            have Fq3 := Lib.hid dq3
            by_cases hq4 : n.frm ≤ 64
            · have dq4 : decide (n.frm ≤ 64) = true := decide_eq_true hq4
              have Fq4 := Lib.hid dq4
              by_cases hg : n.length = 0
              · have Bg : (n.length == 0) = true := by rw [beq_iff_eq]; exact hg
                have Fg := Lib.hid Bg
                clear hg
                have CL := Lib.hid (refLog_any n.stream (64 - n.frm) HE.out _hl)
                cases hL : (decide ((es.length : Int) ≤ 64 - n.frm) && allGood n.stream es) with
                | false =>
                  have FL := Lib.hid hL
                  rw [hL] at CL
                  clear hL
                  go_wp2_with fail
                  refine CL.out.mono ?_
                  rintro e w2 ⟨rfl, b2⟩
                  go_wp2
                  go_ret
                  exact ⟨ret_bool (by rw [HM.out, FS.out, Fs0.out, FE.out, Fv.out, Fq3.out, Fq4.out, Fg.out, FL.out]; rfl), b1.trans (b2.mono b1.size)⟩
                | true =>
                  have FL := Lib.hid hL
                  rw [hL] at CL
                  clear hL
                  go_wp2_with fail
                  refine CL.out.mono ?_
                  rintro e w2 ⟨rfl, b2⟩
                  go_wp2
                  go_ret
                  exact ⟨ret_bool (by rw [HM.out, FS.out, Fs0.out, FE.out, Fv.out, Fq3.out, Fq4.out, Fg.out, FL.out]; rfl), b1.trans (b2.mono b1.size)⟩
              · have Bg : (n.length == 0) = false := by rw [beq_eq_false_iff_ne]; exact hg
                have Fg := Lib.hid Bg
                clear hg
                go_wp2
                go_ret
                exact ⟨ret_bool (by rw [HM.out, FS.out, Fs0.out, FE.out, Fv.out, Fq3.out, Fq4.out, Fg.out]; rfl), b1⟩
            · have dq4 : decide (n.frm ≤ 64) = false := decide_eq_false hq4
              have Fq4 := Lib.hid dq4
              clear hq4
              go_wp2
              go_ret
              exact ⟨ret_bool (by rw [HM.out, FS.out, Fs0.out, FE.out, Fv.out, Fq3.out, Fq4.out]; rfl), b1⟩
          · have dq3 : decide (0 ≤ n.frm) = false := decide_eq_false hq3
            have Fq3 := Lib.hid dq3
            clear hq3
            go_wp2
            go_ret
            exact ⟨ret_bool (by rw [HM.out, FS.out, Fs0.out, FE.out, Fv.out, Fq3.out]; rfl), b1⟩
        · have Bv : (n.view == 0) = false := by rw [beq_eq_false_iff_ne]; exact hv
          have Fv := Lib.hid Bv
          clear hv
          go_wp2
          go_ret
          exact ⟨ret_bool (by rw [HM.out, FS.out, Fs0.out, FE.out, Fv.out]; rfl), b1⟩
    · have Fs0 := Lib.hid (decide_eq_false hs0)
      have ds0 : decide (0 < fs.length) = true := decide_eq_true (by omega)
      clear hs0
      go_wp2
      go_ret
      exact ⟨ret_bool (by rw [HM.out, FS.out, Fs0.out]; rfl), b1⟩
set_option maxRecDepth 100000 in
set_option maxHeartbeats 8000000 in
theorem refMay_k3 {B : Nat} {w : World} (n : RNum) {ae af : Option Addr} {ce cf : Nat} {es : List Ent} {fs : List Spt} (he : EntsAt B w (.slice ae es.length ce) es) (hf : SptsAt B w (.slice af fs.length cf) fs) (_hl : es.length ≤ 1000000) (hlf : fs.length ≤ 1000000) (hk : n.kind = 3) :
    Calls Try.prog 26 #[.agg #[.int .i64 n.kind, .int .i64 n.stream, .int .i64 n.epoch, .int .i64 n.view, .int .i64 n.frm, .int .i64 n.length, .slice ae es.length ce, .slice af fs.length cf]] w fun e w' => e = .returned (.bool (mayR n es fs)) ∧ Below w.heap.size w w' := by
  obtain ⟨w1, e1, b1, s1, g1⟩ := boxed w (recCells n (.slice ae es.length ce) (.slice af fs.length cf)) 25
  have E1 := Lib.hid (show w.alloc (.cells #[.int .i64 n.kind, .int .i64 n.stream, .int .i64 n.epoch, .int .i64 n.view, .int .i64 n.frm, .int .i64 n.length, .slice ae es.length ce, .slice af fs.length cf] 25) = w1 from e1)
  obtain ⟨c0, c1, c2, c3, c4, c5, c6, c7⟩ := rec_cells g1
  have HE := Lib.hid (he.below b1)
  have HF := Lib.hid (hf.below b1)
  clear e1 g1 he hf
  have HM := Lib.hid (show mayR n es fs = (within n.stream 0 3 && (decide (fs.length = 0) && ((n.epoch == 0) && ((n.view == 0) && ((n.frm == 0) && (decide (0 ≤ n.length) && (decide (n.length ≤ 64) && (decide (es.length = 0))))))))) by
    rw [Bool.eq_iff_iff]
    simp only [mayR, kindGood, bareB, within, hk]
    generalize es.length = x
    generalize fs.length = y
    simp
    omega)
  have d5 : (n.kind != 5) = true := by rw [hk]; rfl
  have k1 : (n.kind == 1) = false := by rw [hk]; rfl
  have k2 : (n.kind == 2) = false := by rw [hk]; rfl
  have k3 : (n.kind == 3) = true := by rw [hk]; rfl
  have k4 : (n.kind == 4) = false := by rw [hk]; rfl
  have k5 : (n.kind == 5) = false := by rw [hk]; rfl
  clear hk
  go_enter Try.func26, Try.ntmps26
  go_wp2_with fail
  rw [E1.out]
  have CS := Lib.hid (refStream_any n.stream)
  cases hS : within n.stream 0 3 with
  | false =>
    have FS := Lib.hid hS
    rw [hS] at CS
    clear hS
    go_wp2_with fail
    refine (CS.out _).mono ?_
    rintro e w2 ⟨rfl, rfl⟩
    go_wp2
    go_ret
    exact ⟨ret_bool (by rw [HM.out, FS.out]; rfl), b1⟩
  | true =>
    have FS := Lib.hid hS
    rw [hS] at CS
    clear hS
    go_wp2_with fail
    refine (CS.out _).mono ?_
    rintro e w2 ⟨rfl, rfl⟩
    by_cases hs0 : fs.length = 0
    · have Fs0 := Lib.hid (decide_eq_true hs0)
      have ds0 : decide (0 < fs.length) = false := decide_eq_false (by omega)
      clear hs0
      by_cases hp : n.epoch = 0
      · have Bp : (n.epoch == 0) = true := by rw [beq_iff_eq]; exact hp
        have Fp := Lib.hid Bp
        clear hp
        by_cases hv : n.view = 0
        · have Bv : (n.view == 0) = true := by rw [beq_iff_eq]; exact hv
          have Fv := Lib.hid Bv
          clear hv
          by_cases hf : n.frm = 0
          · have Bf : (n.frm == 0) = true := by rw [beq_iff_eq]; exact hf
            have Ff := Lib.hid Bf
            clear hf
            by_cases hq3 : 0 ≤ n.length
            · have dq3 : decide (0 ≤ n.length) = true := decide_eq_true hq3
              have Fq3 := Lib.hid dq3
              by_cases hq4 : n.length ≤ 64
              · have dq4 : decide (n.length ≤ 64) = true := decide_eq_true hq4
                have Fq4 := Lib.hid dq4
                by_cases he0 : es.length = 0
                · have de0 : ((es.length : Int) == 0) = true := by rw [beq_iff_eq]; omega
                  have Fe0 := Lib.hid (decide_eq_true he0)
                  clear he0
                  go_wp2
                  go_ret
                  exact ⟨ret_bool (by rw [HM.out, FS.out, Fs0.out, Fp.out, Fv.out, Ff.out, Fq3.out, Fq4.out, Fe0.out]; rfl), b1⟩
                · have de0 : ((es.length : Int) == 0) = false := by rw [beq_eq_false_iff_ne]; omega
                  have Fe0 := Lib.hid (decide_eq_false he0)
                  clear he0
                  go_wp2
                  go_ret
                  exact ⟨ret_bool (by rw [HM.out, FS.out, Fs0.out, Fp.out, Fv.out, Ff.out, Fq3.out, Fq4.out, Fe0.out]; rfl), b1⟩
              · have dq4 : decide (n.length ≤ 64) = false := decide_eq_false hq4
                have Fq4 := Lib.hid dq4
                clear hq4
                go_wp2
                go_ret
                exact ⟨ret_bool (by rw [HM.out, FS.out, Fs0.out, Fp.out, Fv.out, Ff.out, Fq3.out, Fq4.out]; rfl), b1⟩
            · have dq3 : decide (0 ≤ n.length) = false := decide_eq_false hq3
              have Fq3 := Lib.hid dq3
              clear hq3
              go_wp2
              go_ret
              exact ⟨ret_bool (by rw [HM.out, FS.out, Fs0.out, Fp.out, Fv.out, Ff.out, Fq3.out]; rfl), b1⟩
          · have Bf : (n.frm == 0) = false := by rw [beq_eq_false_iff_ne]; exact hf
            have Ff := Lib.hid Bf
            clear hf
            go_wp2
            go_ret
            exact ⟨ret_bool (by rw [HM.out, FS.out, Fs0.out, Fp.out, Fv.out, Ff.out]; rfl), b1⟩
        · have Bv : (n.view == 0) = false := by rw [beq_eq_false_iff_ne]; exact hv
          have Fv := Lib.hid Bv
          clear hv
          go_wp2
          go_ret
          exact ⟨ret_bool (by rw [HM.out, FS.out, Fs0.out, Fp.out, Fv.out]; rfl), b1⟩
      · have Bp : (n.epoch == 0) = false := by rw [beq_eq_false_iff_ne]; exact hp
        have Fp := Lib.hid Bp
        clear hp
        go_wp2
        go_ret
        exact ⟨ret_bool (by rw [HM.out, FS.out, Fs0.out, Fp.out]; rfl), b1⟩
    · have Fs0 := Lib.hid (decide_eq_false hs0)
      have ds0 : decide (0 < fs.length) = true := decide_eq_true (by omega)
      clear hs0
      go_wp2
      go_ret
      exact ⟨ret_bool (by rw [HM.out, FS.out, Fs0.out]; rfl), b1⟩
set_option maxRecDepth 100000 in
set_option maxHeartbeats 8000000 in
theorem refMay_k4 {B : Nat} {w : World} (n : RNum) {ae af : Option Addr} {ce cf : Nat} {es : List Ent} {fs : List Spt} (he : EntsAt B w (.slice ae es.length ce) es) (hf : SptsAt B w (.slice af fs.length cf) fs) (_hl : es.length ≤ 1000000) (hlf : fs.length ≤ 1000000) (hk : n.kind = 4) :
    Calls Try.prog 26 #[.agg #[.int .i64 n.kind, .int .i64 n.stream, .int .i64 n.epoch, .int .i64 n.view, .int .i64 n.frm, .int .i64 n.length, .slice ae es.length ce, .slice af fs.length cf]] w fun e w' => e = .returned (.bool (mayR n es fs)) ∧ Below w.heap.size w w' := by
  obtain ⟨w1, e1, b1, s1, g1⟩ := boxed w (recCells n (.slice ae es.length ce) (.slice af fs.length cf)) 25
  have E1 := Lib.hid (show w.alloc (.cells #[.int .i64 n.kind, .int .i64 n.stream, .int .i64 n.epoch, .int .i64 n.view, .int .i64 n.frm, .int .i64 n.length, .slice ae es.length ce, .slice af fs.length cf] 25) = w1 from e1)
  obtain ⟨c0, c1, c2, c3, c4, c5, c6, c7⟩ := rec_cells g1
  have HE := Lib.hid (he.below b1)
  have HF := Lib.hid (hf.below b1)
  clear e1 g1 he hf
  have HM := Lib.hid (show mayR n es fs = (within n.stream 0 3 && (decide (fs.length = 0) && (within n.epoch 0 1048576 && (within n.view 0 1048576 && ((n.frm == 0) && ((decide ((es.length : Int) ≤ 64) && allGood n.stream es) && (decide (0 ≤ n.length) && (decide (n.length ≤ (es.length : Int)))))))))) by
    rw [Bool.eq_iff_iff]
    simp only [mayR, kindGood, bareB, within, logGood, hk]
    generalize allGood n.stream es = g
    generalize es.length = x
    generalize fs.length = y
    simp
    cases g <;> simp <;> omega)
  have d5 : (n.kind != 5) = true := by rw [hk]; rfl
  have k1 : (n.kind == 1) = false := by rw [hk]; rfl
  have k2 : (n.kind == 2) = false := by rw [hk]; rfl
  have k3 : (n.kind == 3) = false := by rw [hk]; rfl
  have k4 : (n.kind == 4) = true := by rw [hk]; rfl
  have k5 : (n.kind == 5) = false := by rw [hk]; rfl
  clear hk
  go_enter Try.func26, Try.ntmps26
  go_wp2_with fail
  rw [E1.out]
  have CS := Lib.hid (refStream_any n.stream)
  cases hS : within n.stream 0 3 with
  | false =>
    have FS := Lib.hid hS
    rw [hS] at CS
    clear hS
    go_wp2_with fail
    refine (CS.out _).mono ?_
    rintro e w2 ⟨rfl, rfl⟩
    go_wp2
    go_ret
    exact ⟨ret_bool (by rw [HM.out, FS.out]; rfl), b1⟩
  | true =>
    have FS := Lib.hid hS
    rw [hS] at CS
    clear hS
    go_wp2_with fail
    refine (CS.out _).mono ?_
    rintro e w2 ⟨rfl, rfl⟩
    by_cases hs0 : fs.length = 0
    · have Fs0 := Lib.hid (decide_eq_true hs0)
      have ds0 : decide (0 < fs.length) = false := decide_eq_false (by omega)
      clear hs0
      have CE := Lib.hid (refEpoch_any n.epoch 0)
      cases hE : within n.epoch 0 1048576 with
      | false =>
        have FE := Lib.hid hE
        rw [hE] at CE
        clear hE
        go_wp2_with fail
        refine (CE.out _).mono ?_
        rintro e w2 ⟨rfl, rfl⟩
        go_wp2
        go_ret
        exact ⟨ret_bool (by rw [HM.out, FS.out, Fs0.out, FE.out]; rfl), b1⟩
      | true =>
        have FE := Lib.hid hE
        rw [hE] at CE
        clear hE
        go_wp2_with fail
        refine (CE.out _).mono ?_
        rintro e w2 ⟨rfl, rfl⟩
        have CV := Lib.hid (refEpoch_any n.view 0)
        cases hV : within n.view 0 1048576 with
        | false =>
          have FV := Lib.hid hV
          rw [hV] at CV
          clear hV
          go_wp2_with fail
          refine (CV.out _).mono ?_
          rintro e w2 ⟨rfl, rfl⟩
          go_wp2
          go_ret
          exact ⟨ret_bool (by rw [HM.out, FS.out, Fs0.out, FE.out, FV.out]; rfl), b1⟩
        | true =>
          have FV := Lib.hid hV
          rw [hV] at CV
          clear hV
          go_wp2_with fail
          refine (CV.out _).mono ?_
          rintro e w2 ⟨rfl, rfl⟩
          by_cases hf : n.frm = 0
          · have Bf : (n.frm == 0) = true := by rw [beq_iff_eq]; exact hf
            have Ff := Lib.hid Bf
            clear hf
            have CL := Lib.hid (refLog_any n.stream 64 HE.out _hl)
            cases hL : (decide ((es.length : Int) ≤ 64) && allGood n.stream es) with
            | false =>
              have FL := Lib.hid hL
              rw [hL] at CL
              clear hL
              go_wp2_with fail
              refine CL.out.mono ?_
              rintro e w2 ⟨rfl, b2⟩
              have p5 := (b2.cell (p := ⟨w.heap.size, 5, none⟩) (by show w.heap.size < w1.heap.size; omega)).trans c5
              have p6 := (b2.cell (p := ⟨w.heap.size, 6, none⟩) (by show w.heap.size < w1.heap.size; omega)).trans c6
              go_wp2
              go_ret
              exact ⟨ret_bool (by rw [HM.out, FS.out, Fs0.out, FE.out, FV.out, Ff.out, FL.out]; rfl), b1.trans (b2.mono b1.size)⟩
            | true =>
              have FL := Lib.hid hL
              rw [hL] at CL
              clear hL
              go_wp2_with fail
              refine CL.out.mono ?_
              rintro e w2 ⟨rfl, b2⟩
              have p5 := (b2.cell (p := ⟨w.heap.size, 5, none⟩) (by show w.heap.size < w1.heap.size; omega)).trans c5
              have p6 := (b2.cell (p := ⟨w.heap.size, 6, none⟩) (by show w.heap.size < w1.heap.size; omega)).trans c6
              by_cases hq3 : 0 ≤ n.length
              · have dq3 : decide (0 ≤ n.length) = true := decide_eq_true hq3
                have Fq3 := Lib.hid dq3
                by_cases hq4 : n.length ≤ (es.length : Int)
                · have dq4 : decide (n.length ≤ (es.length : Int)) = true := decide_eq_true hq4
                  have Fq4 := Lib.hid dq4
                  go_wp2
                  go_ret
                  exact ⟨ret_bool (by rw [HM.out, FS.out, Fs0.out, FE.out, FV.out, Ff.out, FL.out, Fq3.out, Fq4.out]; rfl), b1.trans (b2.mono b1.size)⟩
                · have dq4 : decide (n.length ≤ (es.length : Int)) = false := decide_eq_false hq4
                  have Fq4 := Lib.hid dq4
                  clear hq4
                  go_wp2
                  go_ret
                  exact ⟨ret_bool (by rw [HM.out, FS.out, Fs0.out, FE.out, FV.out, Ff.out, FL.out, Fq3.out, Fq4.out]; rfl), b1.trans (b2.mono b1.size)⟩
              · have dq3 : decide (0 ≤ n.length) = false := decide_eq_false hq3
                have Fq3 := Lib.hid dq3
                clear hq3
                go_wp2
                go_ret
                exact ⟨ret_bool (by rw [HM.out, FS.out, Fs0.out, FE.out, FV.out, Ff.out, FL.out, Fq3.out]; rfl), b1.trans (b2.mono b1.size)⟩
          · have Bf : (n.frm == 0) = false := by rw [beq_eq_false_iff_ne]; exact hf
            have Ff := Lib.hid Bf
            clear hf
            go_wp2
            go_ret
            exact ⟨ret_bool (by rw [HM.out, FS.out, Fs0.out, FE.out, FV.out, Ff.out]; rfl), b1⟩
    · have Fs0 := Lib.hid (decide_eq_false hs0)
      have ds0 : decide (0 < fs.length) = true := decide_eq_true (by omega)
      clear hs0
      go_wp2
      go_ret
      exact ⟨ret_bool (by rw [HM.out, FS.out, Fs0.out]; rfl), b1⟩
set_option maxRecDepth 100000 in
set_option maxHeartbeats 8000000 in
theorem refMay_ko {B : Nat} {w : World} (n : RNum) {ae af : Option Addr} {ce cf : Nat} {es : List Ent} {fs : List Spt} (he : EntsAt B w (.slice ae es.length ce) es) (hf : SptsAt B w (.slice af fs.length cf) fs) (_hl : es.length ≤ 1000000) (hlf : fs.length ≤ 1000000) (h1 : n.kind ≠ 1) (h2 : n.kind ≠ 2) (h3 : n.kind ≠ 3) (h4 : n.kind ≠ 4) (h5 : n.kind ≠ 5) :
    Calls Try.prog 26 #[.agg #[.int .i64 n.kind, .int .i64 n.stream, .int .i64 n.epoch, .int .i64 n.view, .int .i64 n.frm, .int .i64 n.length, .slice ae es.length ce, .slice af fs.length cf]] w fun e w' => e = .returned (.bool (mayR n es fs)) ∧ Below w.heap.size w w' := by
  obtain ⟨w1, e1, b1, s1, g1⟩ := boxed w (recCells n (.slice ae es.length ce) (.slice af fs.length cf)) 25
  have E1 := Lib.hid (show w.alloc (.cells #[.int .i64 n.kind, .int .i64 n.stream, .int .i64 n.epoch, .int .i64 n.view, .int .i64 n.frm, .int .i64 n.length, .slice ae es.length ce, .slice af fs.length cf] 25) = w1 from e1)
  obtain ⟨c0, c1, c2, c3, c4, c5, c6, c7⟩ := rec_cells g1
  have HE := Lib.hid (he.below b1)
  have HF := Lib.hid (hf.below b1)
  clear e1 g1 he hf
  have k1 : (n.kind == 1) = false := by rw [beq_eq_false_iff_ne]; exact h1
  have k2 : (n.kind == 2) = false := by rw [beq_eq_false_iff_ne]; exact h2
  have k3 : (n.kind == 3) = false := by rw [beq_eq_false_iff_ne]; exact h3
  have k4 : (n.kind == 4) = false := by rw [beq_eq_false_iff_ne]; exact h4
  have k5 : (n.kind == 5) = false := by rw [beq_eq_false_iff_ne]; exact h5
  have d5 : (n.kind != 5) = true := by rw [bne_iff_ne]; exact h5
  have HM := Lib.hid (show mayR n es fs = false by
    have hk : kindGood n es fs = false := by unfold kindGood; rw [if_neg h1, if_neg h2, if_neg h3, if_neg h4, if_neg h5]
    unfold mayR; rw [hk]; simp)
  clear h1 h2 h3 h4 h5
  go_enter Try.func26, Try.ntmps26
  go_wp2_with fail
  rw [E1.out]
  have CS := Lib.hid (refStream_any n.stream)
  cases hS : within n.stream 0 3 with
  | false =>
    have FS := Lib.hid hS
    rw [hS] at CS
    clear hS
    go_wp2_with fail
    refine (CS.out _).mono ?_
    rintro e w2 ⟨rfl, rfl⟩
    go_wp2
    go_ret
    exact ⟨ret_bool (by rw [HM.out]), b1⟩
  | true =>
    have FS := Lib.hid hS
    rw [hS] at CS
    clear hS
    go_wp2_with fail
    refine (CS.out _).mono ?_
    rintro e w2 ⟨rfl, rfl⟩
    by_cases hs0 : fs.length = 0
    · have Fs0 := Lib.hid (decide_eq_true hs0)
      have ds0 : decide (0 < fs.length) = false := decide_eq_false (by omega)
      clear hs0
      go_wp2
      go_ret
      exact ⟨ret_bool (by rw [HM.out]), b1⟩
    · have Fs0 := Lib.hid (decide_eq_false hs0)
      have ds0 : decide (0 < fs.length) = true := decide_eq_true (by omega)
      clear hs0
      go_wp2
      go_ret
      exact ⟨ret_bool (by rw [HM.out]), b1⟩
set_option maxRecDepth 100000 in
set_option maxHeartbeats 8000000 in
theorem refMay_k5 {B : Nat} {w : World} (n : RNum) {ae af : Option Addr} {ce cf : Nat} {es : List Ent} {fs : List Spt} (he : EntsAt B w (.slice ae es.length ce) es) (hf : SptsAt B w (.slice af fs.length cf) fs) (_hl : es.length ≤ 1000000) (hlf : fs.length ≤ 1000000) (hk : n.kind = 5) :
    Calls Try.prog 26 #[.agg #[.int .i64 n.kind, .int .i64 n.stream, .int .i64 n.epoch, .int .i64 n.view, .int .i64 n.frm, .int .i64 n.length, .slice ae es.length ce, .slice af fs.length cf]] w fun e w' => e = .returned (.bool (mayR n es fs)) ∧ Below w.heap.size w w' := by
  obtain ⟨w1, e1, b1, s1, g1⟩ := boxed w (recCells n (.slice ae es.length ce) (.slice af fs.length cf)) 25
  have E1 := Lib.hid (show w.alloc (.cells #[.int .i64 n.kind, .int .i64 n.stream, .int .i64 n.epoch, .int .i64 n.view, .int .i64 n.frm, .int .i64 n.length, .slice ae es.length ce, .slice af fs.length cf] 25) = w1 from e1)
  obtain ⟨c0, c1, c2, c3, c4, c5, c6, c7⟩ := rec_cells g1
  have HE := Lib.hid (he.below b1)
  have HF := Lib.hid (hf.below b1)
  clear e1 g1 he hf
  have HM := Lib.hid (show mayR n es fs = ((n.stream == 0) && ((n.epoch == 0) && ((n.view == 0) && ((n.frm == 0) && ((n.length == 0) && (decide (es.length = 0) && (decide (fs.length ≤ 256) && allSpts fs))))))) by
    rw [Bool.eq_iff_iff]
    simp only [mayR, kindGood, bareB, within, feedGood, hk]
    generalize allSpts fs = g
    generalize es.length = x
    generalize fs.length = y
    simp
    cases g <;> simp <;> omega)
  have d5 : (n.kind != 5) = false := by rw [hk]; rfl
  have k1 : (n.kind == 1) = false := by rw [hk]; rfl
  have k2 : (n.kind == 2) = false := by rw [hk]; rfl
  have k3 : (n.kind == 3) = false := by rw [hk]; rfl
  have k4 : (n.kind == 4) = false := by rw [hk]; rfl
  have k5 : (n.kind == 5) = true := by rw [hk]; rfl
  clear hk
  go_enter Try.func26, Try.ntmps26
  go_upto_region 1 with fail
  rw [E1.out]
  by_cases ht : n.stream = 0
  · have Bt : (n.stream == 0) = true := by rw [beq_iff_eq]; exact ht
    have Ft := Lib.hid Bt
    have dt : (n.stream != 0) = false := by rw [bne_eq_false_iff_eq]; exact ht
    clear Bt
    clear ht
    by_cases hp : n.epoch = 0
    · have Bp : (n.epoch == 0) = true := by rw [beq_iff_eq]; exact hp
      have Fp := Lib.hid Bp
      have dp : (n.epoch != 0) = false := by rw [bne_eq_false_iff_eq]; exact hp
      clear Bp
      clear hp
      by_cases hv : n.view = 0
      · have Bv : (n.view == 0) = true := by rw [beq_iff_eq]; exact hv
        have Fv := Lib.hid Bv
        have dv : (n.view != 0) = false := by rw [bne_eq_false_iff_eq]; exact hv
        clear Bv
        clear hv
        by_cases hf : n.frm = 0
        · have Bf : (n.frm == 0) = true := by rw [beq_iff_eq]; exact hf
          have Ff := Lib.hid Bf
          have df : (n.frm != 0) = false := by rw [bne_eq_false_iff_eq]; exact hf
          clear Bf
          clear hf
          by_cases hg : n.length = 0
          · have Bg : (n.length == 0) = true := by rw [beq_iff_eq]; exact hg
            have Fg := Lib.hid Bg
            have dg : (n.length != 0) = false := by rw [bne_eq_false_iff_eq]; exact hg
            clear Bg
            clear hg
            by_cases he0 : es.length = 0
            · have de0 : ((es.length : Int) == 0) = true := by rw [beq_iff_eq]; omega
              have Fe0 := Lib.hid (decide_eq_true he0)
              clear he0
              by_cases hm : fs.length ≤ 256
              · have Fm := Lib.hid (decide_eq_true hm)
                have HD := Lib.hid (show mayR n es fs = allSpts fs by rw [HM.out, Ft.out, Fp.out, Fv.out, Ff.out, Fg.out, Fe0.out, Fm.out]; rfl)
                go_wp2_with fail
                go_loopw [4] (fun p wr => ∃ k : Nat, k ≤ fs.length ∧ p = .int .i64 k ∧ w1 = wr ∧ allSpts (fs.take k) = true) (fun p _ => fs.length - (intOf p).toNat)
                case atStart => exact ⟨0, by omega, rfl, rfl, rfl⟩
                case round =>
                  obtain ⟨k, hk, rfl, rfl, hG⟩ := hrel
                  by_cases hlt : k < fs.length
                  · obtain ⟨a1, c1', hva, hca⟩ := HF.out
                    cases hva
                    obtain ⟨b, off, rfl, hbl, _, hcell⟩ := hca (fun h => by rw [h] at hlt; simp at hlt)
                    obtain ⟨x0, x1⟩ := hcell k hlt
                    have HT := Lib.hid (spts_take hG hlt)
                    have HBad := Lib.hid (spts_bad hlt)
                    clear hcell hca hG
                    generalize fs[k] = x at *
                    have HG := Lib.hid (show sptGood x = (within x.stream 0 3 && decide (0 ≤ x.index) && decide (x.index < 64)) from rfl)
                    have HS := Lib.hid (refStream_any x.stream)
                    generalize within x.stream 0 3 = sp at *
                    cases sp with
                    | false =>
                      go_wp2_with fail
                      refine (HS.out _).mono ?_
                      rintro e w2 ⟨rfl, rfl⟩
                      go_wp2
                      go_ret
                      exact ⟨ret_bool (by rw [HD.out, HBad.out (by rw [HG.out]; rfl)]), b1⟩
                    | true =>
                      by_cases q1 : 0 ≤ x.index
                      · by_cases q2 : x.index < 64
                        · have dq1 : decide (x.index < 0) = false := decide_eq_false (by omega)
                          have dq2 : decide (64 ≤ x.index) = false := decide_eq_false (by omega)
                          have FQ := Lib.hid (show sptGood x = true by rw [HG.out, decide_eq_true q1, decide_eq_true q2]; rfl)
                          clear q1 q2
                          go_wp2_with fail
                          refine (HS.out _).mono ?_
                          rintro e w2 ⟨rfl, rfl⟩
                          go_wp2
                          go_roundw
                          case rel => exact ⟨k + 1, by omega, by go_num, trivial, by rw [HT.out, FQ.out]⟩
                          case measure => simp [intOf]; omega
                        · have dq1 : decide (x.index < 0) = false := decide_eq_false (by omega)
                          have dq2 : decide (64 ≤ x.index) = true := decide_eq_true (by omega)
                          have FQ := Lib.hid (show sptGood x = false by rw [HG.out, decide_eq_false q2]; simp)
                          clear q1 q2
                          go_wp2_with fail
                          refine (HS.out _).mono ?_
                          rintro e w2 ⟨rfl, rfl⟩
                          go_wp2
                          go_ret
                          exact ⟨ret_bool (by rw [HD.out, HBad.out FQ.out]), b1⟩
                      · have dq1 : decide (x.index < 0) = true := decide_eq_true (by omega)
                        have FQ := Lib.hid (show sptGood x = false by rw [HG.out, decide_eq_false q1]; simp)
                        clear q1
                        go_wp2_with fail
                        refine (HS.out _).mono ?_
                        rintro e w2 ⟨rfl, rfl⟩
                        go_wp2
                        go_ret
                        exact ⟨ret_bool (by rw [HD.out, HBad.out FQ.out]), b1⟩
                  · obtain rfl : k = fs.length := by omega
                    rw [List.take_length] at hG
                    have HG := Lib.hid hG
                    clear hG
                    go_wp2
                    go_ret
                    exact ⟨ret_bool (by rw [HD.out, HG.out]), b1⟩
              · have Fm := Lib.hid (decide_eq_false hm)
                go_wp2
                go_ret
                exact ⟨ret_bool (by rw [HM.out, Ft.out, Fp.out, Fv.out, Ff.out, Fg.out, Fe0.out, Fm.out]; rfl), b1⟩
            · have de0 : ((es.length : Int) == 0) = false := by rw [beq_eq_false_iff_ne]; omega
              have Fe0 := Lib.hid (decide_eq_false he0)
              clear he0
              go_wp2
              go_ret
              exact ⟨ret_bool (by rw [HM.out, Ft.out, Fp.out, Fv.out, Ff.out, Fg.out, Fe0.out]; rfl), b1⟩
          · have Bg : (n.length == 0) = false := by rw [beq_eq_false_iff_ne]; exact hg
            have Fg := Lib.hid Bg
            have dg : (n.length != 0) = true := by rw [bne_iff_ne]; exact hg
            clear Bg
            clear hg
            go_wp2
            go_ret
            exact ⟨ret_bool (by rw [HM.out, Ft.out, Fp.out, Fv.out, Ff.out, Fg.out]; rfl), b1⟩
        · have Bf : (n.frm == 0) = false := by rw [beq_eq_false_iff_ne]; exact hf
          have Ff := Lib.hid Bf
          have df : (n.frm != 0) = true := by rw [bne_iff_ne]; exact hf
          clear Bf
          clear hf
          go_wp2
          go_ret
          exact ⟨ret_bool (by rw [HM.out, Ft.out, Fp.out, Fv.out, Ff.out]; rfl), b1⟩
      · have Bv : (n.view == 0) = false := by rw [beq_eq_false_iff_ne]; exact hv
        have Fv := Lib.hid Bv
        have dv : (n.view != 0) = true := by rw [bne_iff_ne]; exact hv
        clear Bv
        clear hv
        go_wp2
        go_ret
        exact ⟨ret_bool (by rw [HM.out, Ft.out, Fp.out, Fv.out]; rfl), b1⟩
    · have Bp : (n.epoch == 0) = false := by rw [beq_eq_false_iff_ne]; exact hp
      have Fp := Lib.hid Bp
      have dp : (n.epoch != 0) = true := by rw [bne_iff_ne]; exact hp
      clear Bp
      clear hp
      go_wp2
      go_ret
      exact ⟨ret_bool (by rw [HM.out, Ft.out, Fp.out]; rfl), b1⟩
  · have Bt : (n.stream == 0) = false := by rw [beq_eq_false_iff_ne]; exact ht
    have Ft := Lib.hid Bt
    have dt : (n.stream != 0) = true := by rw [bne_iff_ne]; exact ht
    clear Bt
    clear ht
    go_wp2
    go_ret
    exact ⟨ret_bool (by rw [HM.out, Ft.out]; rfl), b1⟩
theorem refMayR_any {B : Nat} {w : World} (n : RNum) {ae af : Option Addr} {ce cf : Nat} {es : List Ent} {fs : List Spt} (he : EntsAt B w (.slice ae es.length ce) es) (hf : SptsAt B w (.slice af fs.length cf) fs) (_hl : es.length ≤ 1000000) (hlf : fs.length ≤ 1000000) :
    Calls Try.prog 26 #[.agg #[.int .i64 n.kind, .int .i64 n.stream, .int .i64 n.epoch, .int .i64 n.view, .int .i64 n.frm, .int .i64 n.length, .slice ae es.length ce, .slice af fs.length cf]] w fun e w' => e = .returned (.bool (mayR n es fs)) ∧ Below w.heap.size w w' := by
  by_cases h1 : n.kind = 1
  · exact refMay_k1 n he hf _hl hlf h1
  · by_cases h2 : n.kind = 2
    · exact refMay_k2 n he hf _hl hlf h2
    · by_cases h3 : n.kind = 3
      · exact refMay_k3 n he hf _hl hlf h3
      · by_cases h4 : n.kind = 4
        · exact refMay_k4 n he hf _hl hlf h4
        · by_cases h5 : n.kind = 5
          · exact refMay_k5 n he hf _hl hlf h5
          · exact refMay_ko n he hf _hl hlf h1 h2 h3 h4 h5
end Go.Proofs.Ytalilifegclelaa
