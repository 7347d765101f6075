/- The walk of MailForward. -/
import Derived.Test.YtnekpehgaojkaaaDoorC11q
import Derived.Test.YtnekpehgaojkaaaDoorOpenM
namespace Go.Proofs.YtnekpehgaojkaaaDoor
open Go.RowKit

def fwdM (f : Int) (o : Ord) (a : Ans) : MNum := ⟨7, f, 0, 0, 0, 0, 0, 0, 0, o, a⟩
def repM (d : Int) (a : Ans) : MNum := ⟨8, 0, d, 3, 0, 0, 0, 0, 0, noOrd, a⟩
theorem may_fwd {n f : Int} (o : Ord) (a : Ans) (hn : within n 2 7 = true) (h0 : 0 ≤ f) (h1 : f < n) : mayM (fwdM f o a) [] n = (mayB o && ansZ a) := by
  have h2 := (within_iff.1 hn)
  have hh : headM (fwdM f o a) n = true := by
    unfold headM
    rw [hn, show (fwdM f o a).frm = f from rfl, show (fwdM f o a).dst = 0 from rfl, show (fwdM f o a).kind = 7 from rfl, within_yes h0 (show f ≤ n - 1 by omega), within_yes (show (0 : Int) ≤ 0 by omega) (show (0 : Int) ≤ n - 1 by omega)]
    rfl
  unfold mayM
  rw [hh]
  unfold fieldsM
  simp [fwdM, sMost, eLeast, eMost, vMost, bMost, lMost, tMost, entsM, promM, beside, within]
theorem may_rep {n d : Int} (a : Ans) (hn : within n 2 7 = true) (h0 : 0 ≤ d) (h1 : d < n) : mayM (repM d a) [] n = toldB a := by
  have h2 := (within_iff.1 hn)
  have hh : headM (repM d a) n = true := by
    unfold headM
    rw [hn, show (repM d a).frm = 0 from rfl, show (repM d a).dst = d from rfl, show (repM d a).kind = 8 from rfl, within_yes h0 (show d ≤ n - 1 by omega), within_yes (show (0 : Int) ≤ 0 by omega) (show (0 : Int) ≤ n - 1 by omega)]
    rfl
  unfold mayM
  rw [hh]
  unfold fieldsM
  simp [repM, sMost, eLeast, eMost, vMost, bMost, lMost, tMost, entsM, promM, beside, within, ordZ, noOrd]
theorem may_out {n : Int} (m : MNum) (es : List Ent) (hn : within n 2 7 = false) : mayM m es n = false := by
  unfold mayM headM
  rw [hn]
  rfl
theorem ansZ_zero : ansZ ⟨0, 0, 0⟩ = true := rfl
theorem told_cut (a : Ans) : toldB a = (decide (1 ≤ a.id) && (decide (a.id ≤ 2147483647) && (decide (1 ≤ a.code) && (decide (a.code ≤ 7) && (decide (0 ≤ a.ver) && decide (a.ver ≤ 64)))))) := by
  unfold toldB within
  simp only [Bool.and_assoc]

set_option maxRecDepth 100000 in
set_option maxHeartbeats 8000000 in
theorem mailForward_walk (o : Ord) (a : Ans) (n : Int) (_ho : OrdOk o) (_ha : AnsOk a) (_hn : (Lit.int .i64 n).wf = true) (w : World) (hK : KindsAt w) :
    Calls Tryd.prog 8 #[.agg (ordCells o), .agg (ansCells a), .int .i64 n] w fun e w' => e = .returned (.bool true) ∧ Below w.heap.size w w' := by
  obtain ⟨w1, e1, b1, s1, g1⟩ := boxed w (ordCells o) 24
  obtain ⟨w2, e2, b2, s2, g2⟩ := boxed w1 (ansCells a) 26
  have E2 := Lib.hid (show (w.alloc (.cells (ordCells o) 24)).alloc (.cells (ansCells a) 26) = w2 by rw [← e2, ← e1])
  have B2 := b1.trans (b2.mono b1.size)
  have G1 := Lib.hid ((b2.block w.heap.size (by omega)).trans g1)
  rw [s1] at g2
  have G2 := Lib.hid g2
  have HJ := Lib.hid (maj_any n)
  have HK := Lib.hid hK
  have hp := hK.pos
  have HO := Lib.hid (check_any o)
  have HW := Lib.hid (fun (wx : World) (bx : Below w.heap.size w wx) => works_any (hK.below bx hp))
  have HC := Lib.hid (fun (m : MNum) (wx : World) (bx : Below w.heap.size w wx) => checkM_any m n (hK.below bx hp) (ents_none wx.heap.size wx none 0) (by simp))
  obtain ⟨c0, c1, c2, c3, c4⟩ := ord_cells G1.out
  obtain ⟨d0, d1, d2⟩ := ans_cells G2.out
  clear e1 e2 g1 g2 hK
  cases hn : within n 2 7 with
  | false =>
    have HZ := Lib.hid (show majN n = 0 by unfold majN; rw [hn]; rfl)
    have HM := Lib.hid (may_out (fwdM 0 o ⟨0, 0, 0⟩) [] hn)
    go_enter Tryd.func8, Tryd.ntmps8
    go_wp2_with fail
    rw [E2.out]
    refine (HJ.out _).mono ?_
    rintro e w3 ⟨rfl, rfl⟩
    rw [HZ.out]
    go_wp2_with fail
    refine (HC.out (fwdM 0 o ⟨0, 0, 0⟩) _ B2).mono ?_
    rw [HM.out]
    rintro e w3 ⟨rfl, b3⟩
    have B3 := B2.trans (b3.mono B2.size)
    go_wp2_with fail
    refine (HW.out _ B3).mono ?_
    rintro e w4 ⟨rfl, b4⟩
    go_wp2
    go_ret
    exact ⟨rfl, B3.trans (b4.mono B3.size)⟩
  | true =>
    have hq := within_iff.1 hn
    have HZ := Lib.hid (show (majN n == 0) = false by unfold majN; rw [hn, beq_eq_false_iff_ne]; simp; omega)
    have HM1 := Lib.hid (may_fwd o ⟨0, 0, 0⟩ hn (show 0 ≤ n - 1 by omega) (by omega))
    have HM2 := Lib.hid (may_rep a hn (show 0 ≤ n - 1 by omega) (by omega))
    have HM3 := Lib.hid (may_fwd o a hn (show (0 : Int) ≤ 0 by omega) (by omega))
    have hw : IntKind.i64.wrap (n - 1) = n - 1 := by rw [IntWalk.i64_in _ (by omega)]
    have hj : (majN n == 0) = false := HZ.out
    go_enter Tryd.func8, Tryd.ntmps8
    go_wp2_with fail
    rw [E2.out]
    refine (HJ.out _).mono ?_
    rintro e w3 ⟨rfl, rfl⟩
    go_wp2_with fail
    refine (HC.out (fwdM (n - 1) o ⟨0, 0, 0⟩) _ B2).mono ?_
    rw [HM1.out, ansZ_zero, Bool.and_true]
    rintro e w3 ⟨rfl, b3⟩
    have B3 := B2.trans (b3.mono B2.size)
    clear c0 c1 c2 c3 c4 d0 d1 d2
    have s3 := b3.size
    obtain ⟨d0, d1, d2⟩ := ans_cells ((b3.block _ (by omega)).trans G2.out)
    go_wp2_with fail
    refine (HC.out (repM (n - 1) a) _ B3).mono ?_
    rw [HM2.out]
    rintro e w4 ⟨rfl, b4⟩
    have b24 := b3.trans (b4.mono s3)
    have B4 := B2.trans (b24.mono B2.size)
    have s4 := b24.size
    clear d0 d1 d2
    obtain ⟨c0, c1, c2, c3, c4⟩ := ord_cells ((b24.block _ (by omega)).trans G1.out)
    obtain ⟨d0, d1, d2⟩ := ans_cells ((b24.block _ (by omega)).trans G2.out)
    go_wp2_with fail
    refine (HC.out (fwdM 0 o a) _ B4).mono ?_
    rw [HM3.out]
    rintro e w5 ⟨rfl, b5⟩
    have b25 := b24.trans (b5.mono s4)
    have B5 := B2.trans (b25.mono B2.size)
    have s5 := b25.size
    clear c0 c1 c2 c3 c4 d0 d1 d2
    obtain ⟨c0, c1, c2, c3, c4⟩ := ord_cells ((b25.block _ (by omega)).trans G1.out)
    go_wp2_with fail
    refine (HO.out _).mono ?_
    rintro e w6 ⟨rfl, b6⟩
    have b26 := b25.trans (b6.mono s5)
    have B6 := B2.trans (b26.mono B2.size)
    have s6 := b26.size
    clear c0 c1 c2 c3 c4
    obtain ⟨d0, d1, d2⟩ := ans_cells ((b26.block _ (by omega)).trans G2.out)
    have HT := Lib.hid (told_cut a)
    have e1 : (errno (mayB o) 2 == 0) = mayB o := by cases mayB o <;> rfl
    have e2 : (errno (toldB a) 2 == 0) = toldB a := by cases toldB a <;> rfl
    have e3 : (errno (mayB o && ansZ a) 2 == 0) = (mayB o && ansZ a) := by cases mayB o <;> cases ansZ a <;> rfl
    go_upto_region 7 with fail
    go_cut [11] (fun c wx => c = .bool (toldB a) ∧ wx = w6)
    case first =>
      go_wp2
      all_goals
        go_meet
        exact ⟨congrArg Value.bool (by rw [HT.out]; (simp [*] <;> omega)), rfl⟩
    case rest =>
      obtain ⟨rfl, rfl⟩ := hcut
      generalize toldB a = pT at *
      clear HT e1 e2 e3
      have hz2 : a.id = 0 → a.code = 0 → a.ver = 0 → ansZ a = true := by
        intro z1 z2 z3
        simp [ansZ, z1, z2, z3]
      generalize mayB o = pO at *
      have q1 : errno true 2 = 0 := rfl
      have q2 : errno false 2 = 2 := rfl
      cases hz : ansZ a with
      | true =>
        have hz1 : a.id = 0 ∧ a.code = 0 ∧ a.ver = 0 := by simpa [ansZ] using hz
        obtain ⟨z1, z2, z3⟩ := hz1
        rw [z1] at d0
        rw [z2] at d1
        rw [z3] at d2
        clear hz2
        cases pT <;> cases pO
        all_goals
          simp only [Bool.and_true, q1, q2]
          go_wp2_with (refine (HW.out _ B6).mono ?_; rintro e w7 ⟨rfl, b7⟩)
          go_ret
          exact ⟨rfl, B6.trans (b7.mono B6.size)⟩
      | false =>
        have HZ2 := Lib.hid hz2
        clear hz2
        cases pT <;> cases pO
        all_goals
          simp only [Bool.and_false, q1, q2]
          go_wp2_with (refine (HW.out _ B6).mono ?_; rintro e w7 ⟨rfl, b7⟩)
          all_goals
            go_ret
            first
              | exact ⟨rfl, B6.trans (b7.mono B6.size)⟩
              | exact absurd (HZ2.out (by assumption) (by assumption) (by assumption)) (by rw [hz]; decide)
end Go.Proofs.YtnekpehgaojkaaaDoor
