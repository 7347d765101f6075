/- The walk of the reference's May. (Printed by wip/src/XC11C.py.) -/
import Derived.Test.YtnekpehgaojkaaaDoorC11H
import Derived.Deep.CutRange
namespace Go.Proofs.YtnekpehgaojkaaaDoor
open Go.RowKit

set_option maxRecDepth 100000 in
set_option maxHeartbeats 16000000 in
theorem refMayM_any {B : Nat} {w : World} (m : MNum) (n : Int) {ae : Option Addr} {ce : Nat} {es : List Ent} (he : EntsAt B w (.slice ae es.length ce) es) (hl : es.length ≤ 1000000) :
    Calls Tryd.prog 24 #[.agg (mailCells m (.slice ae es.length ce)), .int .i64 n] w fun e w' => e = .returned (.bool (mayM m es n)) ∧ Below w.heap.size w w' := by
  obtain ⟨w1, e1, b1, s1, g1⟩ := boxed w (mailCells m (.slice ae es.length ce)) 28
  have E1 := Lib.hid e1
  have G1 := Lib.hid g1
  have HE1 := Lib.hid (he.below b1)
  have hM := may_ref m es n
  have HZ := Lib.hid (bits_none m.kind)
  have HS := Lib.hid (refSites_any n)
  have HF := refHas_any m.kind
  obtain ⟨pH, hH⟩ : ∃ p, headR m n = p := ⟨_, rfl⟩
  rw [hH] at hM
  obtain ⟨pK, hK⟩ : ∃ p, within m.kind 1 10 = p := ⟨_, rfl⟩
  rw [hK] at hM
  obtain ⟨pS, hS⟩ : ∃ p, fS m = p := ⟨_, rfl⟩
  rw [hS] at hM
  obtain ⟨pE, hE⟩ : ∃ p, fE m = p := ⟨_, rfl⟩
  rw [hE] at hM
  obtain ⟨pV, hV⟩ : ∃ p, fV m = p := ⟨_, rfl⟩
  rw [hV] at hM
  obtain ⟨pB, hB⟩ : ∃ p, fB m = p := ⟨_, rfl⟩
  rw [hB] at hM
  obtain ⟨pL, hL⟩ : ∃ p, fL m = p := ⟨_, rfl⟩
  rw [hL] at hM
  obtain ⟨pT, hT⟩ : ∃ p, fT m = p := ⟨_, rfl⟩
  rw [hT] at hM
  obtain ⟨pN, hN⟩ : ∃ p, fN m es = p := ⟨_, rfl⟩
  rw [hN] at hM
  obtain ⟨pP, hP⟩ : ∃ p, promM m es = p := ⟨_, rfl⟩
  rw [hP] at hM
  obtain ⟨pO, hO⟩ : ∃ p, fO m = p := ⟨_, rfl⟩
  rw [hO] at hM
  obtain ⟨pA, hA⟩ : ∃ p, fA m = p := ⟨_, rfl⟩
  rw [hA] at hM
  rw [hK] at HZ
  unfold fE at hE
  obtain ⟨ls, hls⟩ : ∃ ls : Int, (if m.kind = 3 then 0 else 1) = ls := ⟨_, rfl⟩
  rw [hls] at hE
  have HLS := Lib.hid hls
  clear hls
  unfold fV at hV
  unfold fB at hB
  unfold fL at hL
  unfold fT at hT
  unfold fN at hN
  unfold fO at hO
  unfold fA at hA
  unfold bitCells at HF
  generalize (bitsOf m.kind).e = be at *
  generalize (bitsOf m.kind).v = bv at *
  generalize (bitsOf m.kind).b = bb at *
  generalize (bitsOf m.kind).l = bl at *
  generalize (bitsOf m.kind).t = bt at *
  generalize (bitsOf m.kind).n = bn at *
  generalize (bitsOf m.kind).o = bo at *
  generalize (bitsOf m.kind).a = ba at *
  have HM := Lib.hid hM
  have HH := Lib.hid hH
  have HSS := Lib.hid hS
  have HEE := Lib.hid hE
  have HVV := Lib.hid hV
  have HBB := Lib.hid hB
  have HLL := Lib.hid hL
  have HTT := Lib.hid hT
  have HNN := Lib.hid hN
  have HPP := Lib.hid hP
  have HOO := Lib.hid hO
  have HAA := Lib.hid hA
  have HFF := Lib.hid HF
  have HST := Lib.hid (refStream_any m.stream)
  have HEP := Lib.hid refEpoch_any
  have HLE := Lib.hid refLength_any
  have HMO := Lib.hid (refMayO_is m.ord)
  have c1 := msg_cell g1 1 (.int .i64 m.frm) rfl
  have c2 := msg_cell g1 2 (.int .i64 m.dst) rfl
  clear e1 g1 he hM hH hK hS hE hV hB hL hT hN hP hO hA HF
  go_enter Tryd.func24, Tryd.ntmps24
  go_upto_region 1 with fail
  (try rw [E1.out])
  go_cut [33] from 9 to 33 (fun c wx => c = .bool (!pH) ∧ wx = w1)
  case first =>
    cases hn : within n 2 7 with
    | false =>
      rw [hn] at HS
      go_wp2_with fail
      refine (HS.out _).mono ?_
      rintro e w' ⟨rfl, rfl⟩
      go_wp2
      go_meet
      exact ⟨congrArg Value.bool (by rw [← HH.out]; unfold headR; rw [hn]; rfl), rfl⟩
    | true =>
      rw [hn] at HS
      go_wp2_with fail
      refine (HS.out _).mono ?_
      rintro e w' ⟨rfl, rfl⟩
      go_wp2
      all_goals
        go_meet
        exact ⟨congrArg Value.bool (by rw [← HH.out, Bool.eq_iff_iff]; unfold headR; rw [hn]; (simp [within] <;> omega)), rfl⟩
  case rest =>
    obtain ⟨rfl, rfl⟩ := hcut
    clear c1 c2
    cases pH with
    | false =>
      go_wp2
      go_ret
      exact ⟨ret_bool (by rw [HM.out]; rfl), b1⟩
    | true =>
      have c0 := msg_cell G1.out 0 (.int .i64 m.kind) rfl
      go_wp2_with fail
      refine (HFF.out _).mono ?_
      rintro e w2 ⟨rfl, b2⟩
      clear c0
      obtain ⟨w3, e3, b3, s3, h3⟩ := boxed w2 #[.bool be, .bool bv, .bool bb, .bool bl, .bool bt, .bool bn, .bool bo, .bool ba] 80
      have E3 := Lib.hid e3
      have s2 := b2.size
      have b13 := b2.trans (b3.mono s2)
      have B3 := b1.trans (b13.mono b1.size)
      have G3 := Lib.hid ((b13.block _ (by omega)).trans G1.out)
      have HE3 := Lib.hid (HE1.out.below b13)
      have H3 := Lib.hid h3
      go_upto_region 4 with fail
      (try rw [E3.out])
      have q0 := bit_cell h3 0 (.bool be) rfl
      have q1 := bit_cell h3 1 (.bool bv) rfl
      have q2 := bit_cell h3 2 (.bool bb) rfl
      have q3 := bit_cell h3 3 (.bool bl) rfl
      have q4 := bit_cell h3 4 (.bool bt) rfl
      have q5 := bit_cell h3 5 (.bool bn) rfl
      have q6 := bit_cell h3 6 (.bool bo) rfl
      have q7 := bit_cell h3 7 (.bool ba) rfl
      clear e3 h3
      go_cut [39] from 34 to 39 (fun c wx => c = .bool (!pK) ∧ wx = w3)
      case first =>
        have hq := bits_equal w3 be bv bb bl bt bn bo ba
        rw [HZ.out] at hq
        go_wp2
        go_meet
        exact ⟨rfl, rfl⟩
      case rest =>
        obtain ⟨rfl, rfl⟩ := hcut
        clear q0 q1 q2 q3 q4 q5 q6 q7
        cases pK with
        | false =>
          go_wp2
          go_ret
          exact ⟨ret_bool (by rw [HM.out]; rfl), B3⟩
        | true =>
          have c3 := msg_cell G3.out 3 (.int .i64 m.stream) rfl
          have c0 := msg_cell G3.out 0 (.int .i64 m.kind) rfl
          go_upto_region 6 with fail
          go_cut [53] from 40 to 53 (fun c wx => c = .bool (!pS) ∧ wx = wc)
          case first =>
            cases hs : within m.stream 0 3 with
            | false =>
              rw [hs] at HST
              go_wp2_with fail
              refine (HST.out _).mono ?_
              rintro e w' ⟨rfl, rfl⟩
              go_wp2
              all_goals
                go_meet
                exact ⟨congrArg Value.bool (by rw [← HSS.out]; unfold fS; rw [hs]; rfl), rfl⟩
            | true =>
              rw [hs] at HST
              by_cases hk : m.kind = 7
              · have HKK := Lib.hid hk
                rw [hk] at c0
                clear hk
                go_wp2_with fail
                refine (HST.out _).mono ?_
                rintro e w' ⟨rfl, rfl⟩
                go_wp2
                go_meet
                exact ⟨congrArg Value.bool (by rw [← HSS.out]; unfold fS; rw [hs, HKK.out]; by_cases hz : m.stream = 0 <;> simp [hz]), rfl⟩
              · have HKK := Lib.hid hk
                have d7 : (m.kind == 7) = false := by rw [beq_eq_false_iff_ne]; exact hk
                clear hk
                go_wp2_with fail
                refine (HST.out _).mono ?_
                rintro e w' ⟨rfl, rfl⟩
                go_wp2
                go_meet
                exact ⟨congrArg Value.bool (by rw [← HSS.out]; unfold fS; rw [hs]; simp [HKK.out]), rfl⟩
          case rest =>
            obtain ⟨rfl, rfl⟩ := hcut
            clear c3
            cases pS with
            | false =>
              go_wp2
              go_ret
              exact ⟨ret_bool (by rw [HM.out]; rfl), B3⟩
            | true =>
              go_upto_if 56 with fail
              go_cut [6] from 54 to 56 (fun c wx => c = .int .i64 ls ∧ wx = wc)
              case first =>
                by_cases hk : m.kind = 3
                · have d7 : (m.kind == 3) = true := by rw [hk]; rfl
                  have HKK := Lib.hid hk
                  clear hk
                  go_wp2
                  go_meet
                  exact ⟨by rw [← HLS.out, if_pos HKK.out], rfl⟩
                · have HKK := Lib.hid hk
                  have d7 : (m.kind == 3) = false := by rw [beq_eq_false_iff_ne]; exact hk
                  clear hk
                  go_wp2
                  go_meet
                  exact ⟨by rw [← HLS.out, if_neg HKK.out], rfl⟩
              case rest =>
                obtain ⟨rfl, rfl⟩ := hcut
                clear c0
                have c4 := msg_cell G3.out 4 (.int .i64 m.epoch) rfl
                have q0 := bit_cell H3.out 0 (.bool be) rfl
                go_upto_region 11 with fail
                go_cut [75] from 57 to 75 (fun c wx => c = .bool (!pE) ∧ wx = wc)
                case first =>
                  cases be with
                  | true =>
                    have hx : within m.epoch ls 1048576 = pE := HEE.out
                    have HX := Lib.hid (HEP.out m.epoch ls)
                    rw [hx] at HX
                    cases pE
                    all_goals
                      go_wp2_with fail
                      refine (HX.out _).mono ?_
                      rintro e w' ⟨rfl, rfl⟩
                      go_wp2
                      go_meet
                      exact ⟨rfl, rfl⟩
                  | false =>
                    have hx := Lib.hid (show decide (m.epoch = 0) = pE from HEE.out)
                    go_wp2
                    all_goals
                      go_meet
                      exact ⟨congrArg Value.bool (by rw [← hx.out]; by_cases hz : m.epoch = 0 <;> simp [hz]), rfl⟩
                case rest =>
                  obtain ⟨rfl, rfl⟩ := hcut
                  clear c4 q0
                  cases pE with
                  | false =>
                    go_wp2
                    go_ret
                    exact ⟨ret_bool (by rw [HM.out]; rfl), B3⟩
                  | true =>
                    have c5 := msg_cell G3.out 5 (.int .i64 m.view) rfl
                    have q1 := bit_cell H3.out 1 (.bool bv) rfl
                    go_upto_region 13 with fail
                    go_cut [93] from 76 to 93 (fun c wx => c = .bool (!pV) ∧ wx = wc)
                    case first =>
                      cases bv with
                      | true =>
                        have hx : within m.view 0 1048576 = pV := HVV.out
                        have HX := Lib.hid (HEP.out m.view 0)
                        rw [hx] at HX
                        cases pV
                        all_goals
                          go_wp2_with fail
                          refine (HX.out _).mono ?_
                          rintro e w' ⟨rfl, rfl⟩
                          go_wp2
                          go_meet
                          exact ⟨rfl, rfl⟩
                      | false =>
                        have hx := Lib.hid (show decide (m.view = 0) = pV from HVV.out)
                        go_wp2
                        all_goals
                          go_meet
                          exact ⟨congrArg Value.bool (by rw [← hx.out]; by_cases hz : m.view = 0 <;> simp [hz]), rfl⟩
                    case rest =>
                      obtain ⟨rfl, rfl⟩ := hcut
                      clear c5 q1
                      cases pV with
                      | false =>
                        go_wp2
                        go_ret
                        exact ⟨ret_bool (by rw [HM.out]; rfl), B3⟩
                      | true =>
                        have c6 := msg_cell G3.out 6 (.int .i64 m.base) rfl
                        have q2 := bit_cell H3.out 2 (.bool bb) rfl
                        go_upto_region 15 with fail
                        go_cut [111] from 94 to 111 (fun c wx => c = .bool (!pB) ∧ wx = wc)
                        case first =>
                          cases bb with
                          | true =>
                            have hx : within m.base 0 64 = pB := HBB.out
                            have HX := Lib.hid (HLE.out m.base)
                            rw [hx] at HX
                            cases pB
                            all_goals
                              go_wp2_with fail
                              refine (HX.out _).mono ?_
                              rintro e w' ⟨rfl, rfl⟩
                              go_wp2
                              go_meet
                              exact ⟨rfl, rfl⟩
                          | false =>
                            have hx := Lib.hid (show decide (m.base = 0) = pB from HBB.out)
                            go_wp2
                            all_goals
                              go_meet
                              exact ⟨congrArg Value.bool (by rw [← hx.out]; by_cases hz : m.base = 0 <;> simp [hz]), rfl⟩
                        case rest =>
                          obtain ⟨rfl, rfl⟩ := hcut
                          clear c6 q2
                          cases pB with
                          | false =>
                            go_wp2
                            go_ret
                            exact ⟨ret_bool (by rw [HM.out]; rfl), B3⟩
                          | true =>
                            have c7 := msg_cell G3.out 7 (.int .i64 m.length) rfl
                            have q3 := bit_cell H3.out 3 (.bool bl) rfl
                            go_upto_region 17 with fail
                            go_cut [129] from 112 to 129 (fun c wx => c = .bool (!pL) ∧ wx = wc)
                            case first =>
                              cases bl with
                              | true =>
                                have hx : within m.length 0 64 = pL := HLL.out
                                have HX := Lib.hid (HLE.out m.length)
                                rw [hx] at HX
                                cases pL
                                all_goals
                                  go_wp2_with fail
                                  refine (HX.out _).mono ?_
                                  rintro e w' ⟨rfl, rfl⟩
                                  go_wp2
                                  go_meet
                                  exact ⟨rfl, rfl⟩
                              | false =>
                                have hx := Lib.hid (show decide (m.length = 0) = pL from HLL.out)
                                go_wp2
                                all_goals
                                  go_meet
                                  exact ⟨congrArg Value.bool (by rw [← hx.out]; by_cases hz : m.length = 0 <;> simp [hz]), rfl⟩
                            case rest =>
                              obtain ⟨rfl, rfl⟩ := hcut
                              clear c7 q3
                              cases pL with
                              | false =>
                                go_wp2
                                go_ret
                                exact ⟨ret_bool (by rw [HM.out]; rfl), B3⟩
                              | true =>
                                have c8 := msg_cell G3.out 8 (.int .i64 m.stamp) rfl
                                have q4 := bit_cell H3.out 4 (.bool bt) rfl
                                go_upto_region 19 with fail
                                go_cut [147] from 130 to 147 (fun c wx => c = .bool (!pT) ∧ wx = wc)
                                case first =>
                                  cases bt
                                  all_goals
                                    go_wp2
                                    all_goals
                                      go_meet
                                      exact ⟨congrArg Value.bool (by rw [← HTT.out, Bool.eq_iff_iff]; (simp [within] <;> omega)), rfl⟩
                                case rest =>
                                  obtain ⟨rfl, rfl⟩ := hcut
                                  clear c8 q4
                                  cases pT with
                                  | false =>
                                    go_wp2
                                    go_ret
                                    exact ⟨ret_bool (by rw [HM.out]; rfl), B3⟩
                                  | true =>
                                    have hb0 : bn = true → 0 ≤ m.base ∧ m.base ≤ 64 := by
                                      intro _
                                      have h := HBB.out
                                      cases bb with
                                      | true => exact within_iff.1 h
                                      | false =>
                                        have h1 : m.base = 0 := by simpa using h
                                        omega
                                    have hrw := msg_range G3.out
                                    have C6 := Lib.hid (msg_cell G3.out 6 (.int .i64 m.base) rfl)
                                    have C9 := Lib.hid (msg_cell G3.out 9 (.slice ae es.length ce) rfl)
                                    have q5 := bit_cell H3.out 5 (.bool bn) rfl
                                    go_upto_region 21 with fail
                                    go_cut [168] from 148 to 168 (fun c wx => c = .bool (!pN) ∧ Below wc.heap.size wc wx)
                                    case first =>
                                      cases bn with
                                      | true =>
                                        obtain ⟨h1, h2⟩ := hb0 rfl
                                        have hw : IntKind.i64.wrap (64 - m.base) = 64 - m.base := by rw [IntWalk.i64_in _ (by omega)]
                                        have hx : (decide ((es.length : Int) ≤ 64 - m.base) && allGood m.stream es) = pN := HNN.out
                                        have HX := Lib.hid (refLogM_any m (64 - m.base) HE3.out hl)
                                        rw [hx] at HX
                                        clear hb0 h1 h2 hx
                                        cases pN
                                        all_goals
                                          go_wp2_with (first | (refine load_midG (by rfl) _ _ rfl _ _ rfl _ _ hrw Tryd.underlying28 rfl (by kernel_rfl) ?_) | (refine load_oneG (by rfl) _ _ rfl _ rfl _ _ C6.out Tryd.underlying3 rfl ?_))
                                          refine HX.out.mono ?_
                                          rintro e w4 ⟨rfl, b4⟩
                                          have q5 := (b4.cell (p := ⟨w2.heap.size, 5, none⟩) (by show w2.heap.size < _; omega)).trans q5
                                          clear hrw
                                          go_wp2
                                          go_meet
                                          exact ⟨rfl, b4⟩
                                      | false =>
                                        have hx := Lib.hid (show decide (es.length = 0) = pN from HNN.out)
                                        have c9 := C9.out
                                        clear hb0 hrw
                                        go_wp2
                                        all_goals
                                          go_meet
                                          exact ⟨congrArg Value.bool (by rw [← hx.out]; (by_cases hz : es.length = 0 <;> (simp [hz] <;> omega))), Below.refl _ _⟩
                                    case rest =>
                                      obtain ⟨rfl, b4⟩ := hcut
                                      clear hb0 hrw q5
                                      have s4 := b4.size
                                      have B4 := B3.trans (b4.mono B3.size)
                                      have G4 := Lib.hid ((b4.block _ (by omega)).trans G3.out)
                                      have H4 := Lib.hid ((b4.block _ (by omega)).trans H3.out)
                                      have C9 := Lib.hid (msg_cell G4.out 9 (.slice ae es.length ce) rfl)
                                      cases pN with
                                      | false =>
                                        go_wp2
                                        go_ret
                                        exact ⟨ret_bool (by rw [HM.out]; rfl), B4⟩
                                      | true =>
                                        have c0 := msg_cell G4.out 0 (.int .i64 m.kind) rfl
                                        have c7 := msg_cell G4.out 7 (.int .i64 m.length) rfl
                                        have c9 := C9.out
                                        go_upto_region 23 with fail
                                        go_cut [179] from 169 to 179 (fun c wx => c = .bool (!pP) ∧ wx = wc)
                                        case first =>
                                          by_cases hk : m.kind = 2
                                          · have HKK := Lib.hid hk
                                            rw [hk] at c0
                                            clear hk
                                            go_wp2
                                            all_goals
                                              go_meet
                                              exact ⟨congrArg Value.bool (by rw [← HPP.out, Bool.eq_iff_iff]; unfold promM; rw [if_pos HKK.out]; (simp <;> omega)), rfl⟩
                                          · have d7 : (m.kind == 2) = false := by rw [beq_eq_false_iff_ne]; exact hk
                                            have HKK := Lib.hid hk
                                            clear hk
                                            go_wp2
                                            all_goals
                                              go_meet
                                              exact ⟨congrArg Value.bool (by rw [← HPP.out]; unfold promM; rw [if_neg HKK.out]; rfl), rfl⟩
                                        case rest =>
                                          obtain ⟨rfl, rfl⟩ := hcut
                                          clear c0 c7 c9
                                          cases pP with
                                          | false =>
                                            go_wp2
                                            go_ret
                                            exact ⟨ret_bool (by rw [HM.out]; rfl), B4⟩
                                          | true =>
                                            have q6 := bit_cell H4.out 6 (.bool bo) rfl
                                            have c10 := msg_cell G4.out 10 (.int .i64 m.ord.id) rfl
                                            have c11 := msg_cell G4.out 11 (.int .i64 m.ord.stream) rfl
                                            have c12 := msg_cell G4.out 12 (.int .i64 m.ord.expect) rfl
                                            have c13 := msg_cell G4.out 13 (.int .i64 m.ord.kind) rfl
                                            have c14 := msg_cell G4.out 14 (.int .i64 m.ord.arg) rfl
                                            go_upto_region 25 with fail
                                            go_cut [198] from 180 to 198 (fun c wx => c = .bool (!pO) ∧ Below wc.heap.size wc wx)
                                            case first =>
                                              cases bo with
                                              | true =>
                                                have hx : mayB m.ord = pO := HOO.out
                                                have HX := Lib.hid HMO.out
                                                rw [hx] at HX
                                                clear hx
                                                cases pO
                                                all_goals
                                                  go_wp2_with fail
                                                  refine (HX.out _).mono ?_
                                                  rintro e w5 ⟨rfl, b5⟩
                                                  have q6 := (b5.cell (p := ⟨w2.heap.size, 6, none⟩) (by show w2.heap.size < _; omega)).trans q6
                                                  clear c10 c11 c12 c13 c14
                                                  go_wp2
                                                  go_meet
                                                  exact ⟨rfl, b5⟩
                                              | false =>
                                                have hx := Lib.hid (show ordZ m.ord = pO from HOO.out)
                                                go_wp2
                                                all_goals
                                                  go_meet
                                                  exact ⟨congrArg Value.bool (by rw [← hx.out]; simp [ordZ, *]), Below.refl _ _⟩
                                            case rest =>
                                              obtain ⟨rfl, b5⟩ := hcut
                                              clear q6 c10 c11 c12 c13 c14
                                              have s5 := b5.size
                                              have B5 := B4.trans (b5.mono B4.size)
                                              have G5 := Lib.hid ((b5.block _ (by omega)).trans G4.out)
                                              have H5 := Lib.hid ((b5.block _ (by omega)).trans H4.out)
                                              cases pO with
                                              | false =>
                                                go_wp2
                                                go_ret
                                                exact ⟨ret_bool (by rw [HM.out]; rfl), B5⟩
                                              | true =>
                                                have c15 := msg_cell G5.out 15 (.int .i64 m.ans.id) rfl
                                                have c16 := msg_cell G5.out 16 (.int .i64 m.ans.code) rfl
                                                have c17 := msg_cell G5.out 17 (.int .i64 m.ans.ver) rfl
                                                obtain ⟨w6, e6, b6, s6, h6⟩ := boxed wc (ansCells m.ans) 26
                                                have E6 := Lib.hid (show wc.alloc (.cells #[.int .i64 m.ans.id, .int .i64 m.ans.code, .int .i64 m.ans.ver] 26) = w6 from e6)
                                                have H6 := Lib.hid ((b6.block _ (by omega)).trans H5.out)
                                                have B6 := B5.trans (b6.mono B5.size)
                                                clear e6
                                                go_upto_region 28 with fail
                                                rw [E6.out]
                                                clear c15 c16 c17
                                                obtain ⟨d0, d1, d2⟩ := ans_cells h6
                                                clear h6
                                                obtain ⟨pD, hD⟩ : ∃ p, toldB m.ans = p := ⟨_, rfl⟩
                                                have HDD := Lib.hid hD
                                                have HV := Lib.hid (HLE.out m.ans.ver)
                                                clear hD
                                                go_cut [8] from 201 to 223 (fun c wx => c = .bool pD ∧ wx = w6)
                                                case first =>
                                                  obtain ⟨lv, hv⟩ : ∃ lv, within m.ans.ver 0 64 = lv := ⟨_, rfl⟩
                                                  rw [hv] at HV
                                                  have HVL := Lib.hid hv
                                                  clear hv
                                                  go_wp2_with fail
                                                  all_goals
                                                    try
                                                      refine (HV.out _).mono ?_
                                                      rintro e w' ⟨rfl, rfl⟩
                                                      go_wp2
                                                    go_meet
                                                    exact ⟨congrArg Value.bool (by rw [← HDD.out]; unfold toldB; rw [HVL.out]; (simp [within, *] <;> (intros; omega))), rfl⟩
                                                case rest =>
                                                  obtain ⟨rfl, rfl⟩ := hcut
                                                  have q7 := bit_cell H6.out 7 (.bool ba) rfl
                                                  have HX := Lib.hid (show (if ba = true then pD else ansZ m.ans) = pA from by rw [← HDD.out]; exact HAA.out)
                                                  cases ba with
                                                  | true =>
                                                    have hx := Lib.hid (show pD = pA from HX.out)
                                                    cases pD
                                                    all_goals
                                                      go_wp2
                                                      go_ret
                                                      exact ⟨ret_bool (by rw [HM.out, ← hx.out]; rfl), B6⟩
                                                  | false =>
                                                    have hx := Lib.hid (show ansZ m.ans = pA from HX.out)
                                                    go_wp2
                                                    all_goals
                                                      go_ret
                                                      exact ⟨ret_bool (by rw [HM.out, ← hx.out]; simp [ansZ, *]), B6⟩
end Go.Proofs.YtnekpehgaojkaaaDoor
