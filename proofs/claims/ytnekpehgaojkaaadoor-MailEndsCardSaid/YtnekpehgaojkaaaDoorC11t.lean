/- The walk of MailSites. -/
import Derived.Test.YtnekpehgaojkaaaDoorC11q
import Derived.Test.YtnekpehgaojkaaaDoorOpenM
namespace Go.Proofs.YtnekpehgaojkaaaDoor
open Go.RowKit

/-- A message that is handed in. -/
theorem MsgIn.parts {w : World} {v : Value} {m : MNum} {es : List Ent} (h : MsgIn w v m es) : ∃ ae ce, v = .agg (mailCells m (.slice ae es.length ce)) ∧ MNumOk m ∧ EntsAt w.heap.size w (.slice ae es.length ce) es ∧ EntsOk es := by
  obtain ⟨ve, rfl, hm, he⟩ := h
  obtain ⟨ae, ce, rfl, _⟩ := he.1
  exact ⟨ae, ce, rfl, hm, he.1, he.2.2⟩
/-- Among other sites. -/
theorem may_sites {m : MNum} {es : List Ent} {n : Int} (h : mayM m es n = true) (k : Int) : mayM m es k = (within k 2 7 && (decide (m.frm < k) && decide (m.dst < k))) := by
  unfold mayM at *
  simp only [Bool.and_eq_true] at h
  rw [h.2, Bool.and_true]
  have h1 := h.1
  unfold headM at *
  simp only [Bool.and_eq_true] at h1
  obtain ⟨_, h2, h3, h4⟩ := h1
  rw [h4, Bool.and_true]
  have h2 := within_iff.1 h2
  have h3 := within_iff.1 h3
  congr 1
  rw [Bool.eq_iff_iff]
  simp only [Bool.and_eq_true, decide_eq_true_eq, within_iff]
  omega

set_option maxRecDepth 100000 in
set_option maxHeartbeats 8000000 in
theorem mailSites_walk (m : MNum) (es : List Ent) (v : Value) (n k : Int) (_hn : (Lit.int .i64 n).wf = true) (_hk : (Lit.int .i64 k).wf = true) (w : World) (hK : KindsAt w) (hM : MsgIn w v m es) :
    Calls Tryd.prog 6 #[v, .int .i64 n, .int .i64 k] w fun e w' => e = .returned (.bool true) ∧ Below w.heap.size w w' := by
  obtain ⟨ae, ce, rfl, hm, he, hoe⟩ := hM.parts
  clear hM
  obtain ⟨w1, e1, b1, s1, g1⟩ := boxed w (mailCells m (.slice ae es.length ce)) 28
  have E1 := Lib.hid e1
  have G1 := Lib.hid g1
  have hp := hK.pos
  have HW := Lib.hid (fun (wx : World) (bx : Below w.heap.size w wx) => works_any (hK.below bx hp))
  have C9 := Lib.hid (msg_cell g1 9 (.slice ae es.length ce) rfl)
  by_cases hl : 500 < es.length
  · clear he hK g1 e1
    go_enter Tryd.func6, Tryd.ntmps6
    go_upto_region 1 with fail
    (try rw [E1.out])
    go_wp2_with (refine load_oneG (by rfl) _ _ rfl _ rfl _ _ C9.out Tryd.underlying22 rfl ?_)
    refine (HW.out _ b1).mono ?_
    rintro e w2 ⟨rfl, b2⟩
    go_wp2
    go_ret
    exact ⟨rfl, b1.trans (b2.mono b1.size)⟩
  · have HC := Lib.hid (checkM_any m n (hK.below b1 hp) (he.below b1) (by omega))
    have hr := msg_range g1
    have d0 : decide ((500 : Int) < (es.length : Int)) = false := by rw [decide_eq_false_iff_not]; omega
    cases hmy : mayM m es n with
    | false =>
      rw [hmy] at HC
      clear he hK g1 e1
      go_enter Tryd.func6, Tryd.ntmps6
      go_upto_region 1 with fail
      (try rw [E1.out])
      go_wp2_with (first | (refine load_midG (by rfl) _ _ rfl _ _ rfl _ _ hr Tryd.underlying28 rfl (by kernel_rfl) ?_) | (refine load_oneG (by rfl) _ _ rfl _ rfl _ _ C9.out Tryd.underlying22 rfl ?_))
      refine HC.out.mono ?_
      rintro e w2 ⟨rfl, b2⟩
      have B2 := b1.trans (b2.mono b1.size)
      rw [show errno false 2 = 2 from rfl]
      clear hr
      go_wp2_with fail
      refine (HW.out _ B2).mono ?_
      rintro e w3 ⟨rfl, b3⟩
      go_wp2
      go_ret
      exact ⟨rfl, B2.trans (b3.mono B2.size)⟩
    | true =>
      rw [hmy] at HC
      have HX := Lib.hid (fun (q : Int) (wx : World) (bx : Below w.heap.size w wx) => encodeM_any m q (hK.below bx hp) (he.below bx) (by omega) hm hoe)
      have hky := may_sites hmy k
      have HMY := Lib.hid hmy
      clear he hK g1 e1 hmy
      go_enter Tryd.func6, Tryd.ntmps6
      go_upto_region 1 with fail
      (try rw [E1.out])
      go_wp2_with (first | (refine load_midG (by rfl) _ _ rfl _ _ rfl _ _ hr Tryd.underlying28 rfl (by kernel_rfl) ?_) | (refine load_oneG (by rfl) _ _ rfl _ rfl _ _ C9.out Tryd.underlying22 rfl ?_))
      refine HC.out.mono ?_
      rintro e w2 ⟨rfl, b2⟩
      have B2 := b1.trans (b2.mono b1.size)
      have s2 := b2.size
      rw [show errno true 2 = 0 from rfl]
      clear hr
      have hr := msg_range ((b2.block _ (by omega)).trans G1.out)
      go_wp2_with (refine load_midG (by rfl) _ _ rfl _ _ rfl _ _ hr Tryd.underlying28 rfl (by kernel_rfl) ?_)
      refine (HX.out n _ B2).mono ?_
      rw [HMY.out]
      rintro e w3 ⟨rfl, b3⟩
      have b13 := b2.trans (b3.mono s2)
      have B3 := b1.trans (b13.mono b1.size)
      have s3 := b13.size
      clear hr
      have hr := msg_range ((b13.block _ (by omega)).trans G1.out)
      go_wp2_with (refine load_midG (by rfl) _ _ rfl _ _ rfl _ _ hr Tryd.underlying28 rfl (by kernel_rfl) ?_)
      refine (HX.out k _ B3).mono ?_
      rintro e w4 ⟨rfl, b4⟩
      have b14 := b13.trans (b4.mono s3)
      have B4 := b1.trans (b14.mono b1.size)
      have s4 := b14.size
      clear hr
      have HJ := Lib.hid (maj_any k)
      have G4 := (b14.block _ (by omega)).trans G1.out
      have c1 := msg_cell G4 1 (.int .i64 m.frm) rfl
      have c2 := msg_cell G4 2 (.int .i64 m.dst) rfl
      have HKY := Lib.hid hky
      generalize hpk : mayM m es k = pk at *
      obtain ⟨se, hse⟩ : ∃ se, str (if pk = true then encM m es else []) = se := ⟨_, rfl⟩
      obtain ⟨ck, hck⟩ : ∃ ck, errno pk 2 = ck := ⟨_, rfl⟩
      rw [hse, hck]
      have HSE := Lib.hid hse
      have HCK := Lib.hid hck
      clear G4 hpk hse hck
      go_upto_region 5 with fail
      go_cut [11] (fun c wx => c = .bool pk ∧ wx = w4)
      case first =>
        cases hn2 : within k 2 7 with
        | false =>
          have hz : majN k = 0 := by unfold majN; rw [hn2]; rfl
          go_wp2_with (refine (HJ.out _).mono ?_; rintro e w5 ⟨rfl, rfl⟩; rw [hz])
          all_goals
            go_meet
            exact ⟨congrArg Value.bool (by rw [HKY.out, hn2]; rfl), rfl⟩
        | true =>
          have hz : 0 < majN k := by have := within_iff.1 hn2; unfold majN; rw [hn2]; simp; omega
          go_wp2_with (refine (HJ.out _).mono ?_; rintro e w5 ⟨rfl, rfl⟩)
          all_goals
            go_meet
            exact ⟨congrArg Value.bool (by rw [HKY.out, hn2]; (simp [*] <;> omega)), rfl⟩
      case rest =>
        obtain ⟨rfl, rfl⟩ := hcut
        clear hky c1 c2
        cases pk
        · have hse := HSE.out
          have hck := HCK.out
          simp only [show errno false 2 = 2 from rfl] at hck
          subst hck hse
          go_wp2_with (refine (HW.out _ B4).mono ?_; rintro e w5 ⟨rfl, b5⟩)
          go_ret
          exact ⟨rfl, B4.trans (b5.mono B4.size)⟩
        · have hse := HSE.out
          have hck := HCK.out
          rw [if_pos rfl] at hse
          simp only [show errno true 2 = 0 from rfl] at hck
          subst hck hse
          rw [show errno true 2 = 0 from rfl]
          generalize str (encM m es) = t
          go_wp2_with (refine (HW.out _ B4).mono ?_; rintro e w5 ⟨rfl, b5⟩)
          go_ret
          exact ⟨rfl, B4.trans (b5.mono B4.size)⟩
end Go.Proofs.YtnekpehgaojkaaaDoor
