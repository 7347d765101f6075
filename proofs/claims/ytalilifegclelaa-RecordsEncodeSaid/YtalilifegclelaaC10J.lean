/- The walk of RecordsEncode. (Printed by wip/src/XC10J.py.) -/
import Derived.Test.YtalilifegclelaaC10I
import Derived.Lib.QuietBelow
import Derived.BigQuiet
namespace Go.Proofs.Ytalilifegclelaa
open Go.RowKit

theorem drew_owns {B n sz : Nat} {e : TypeId} {w : World} {v : Value} {xs : List Value} (h : w.ownsRow B e sz v n xs) : w.drew.ownsRow B e sz v n xs := h
theorem refCheckR_yes {B : Nat} {w : World} {n : RNum} {ae af : Option Addr} {ce cf : Nat} {es : List Ent} {fs : List Spt} (he : EntsAt B w (.slice ae es.length ce) es) (hf : SptsAt B w (.slice af fs.length cf) fs) (hl : es.length ≤ 1000000) (hlf : fs.length ≤ 1000000) (h : mayR n es fs = true) :
    Calls Try.prog 13 #[.agg #[.int .i64 n.kind, .int .i64 n.stream, .int .i64 n.epoch, .int .i64 n.view, .int .i64 n.frm, .int .i64 n.length, .slice ae es.length ce, .slice af fs.length cf]] w fun e w' => e = .returned (.int .i64 0) ∧ Below w.heap.size w w' := by
  obtain ⟨w1, e1, b1, s1, h1⟩ := boxed w (recCells n (.slice ae es.length ce) (.slice af fs.length cf)) 25
  have E1 := Lib.hid (show w.alloc (.cells #[.int .i64 n.kind, .int .i64 n.stream, .int .i64 n.epoch, .int .i64 n.view, .int .i64 n.frm, .int .i64 n.length, .slice ae es.length ce, .slice af fs.length cf] 25) = w1 from e1)
  obtain ⟨c0, c1, c2, c3, c4, c5, c6, c7⟩ := rec_cells h1
  have HM := refMayR_any n (he.below b1) (hf.below b1) hl hlf
  rw [h] at HM
  have HM := Lib.hid HM
  clear e1 h1 he hf h
  go_enter Try.func13, Try.ntmps13
  go_wp2_with fail
  (try rw [E1.out])
  refine HM.out.mono ?_
  rintro e w2 ⟨rfl, b2⟩
  go_wp2
  go_ret
  exact ⟨rfl, b1.trans (b2.mono b1.size)⟩
theorem refCheckR_no {B : Nat} {w : World} {n : RNum} {ae af : Option Addr} {ce cf : Nat} {es : List Ent} {fs : List Spt} (he : EntsAt B w (.slice ae es.length ce) es) (hf : SptsAt B w (.slice af fs.length cf) fs) (hl : es.length ≤ 1000000) (hlf : fs.length ≤ 1000000) (h : mayR n es fs = false) :
    Calls Try.prog 13 #[.agg #[.int .i64 n.kind, .int .i64 n.stream, .int .i64 n.epoch, .int .i64 n.view, .int .i64 n.frm, .int .i64 n.length, .slice ae es.length ce, .slice af fs.length cf]] w fun e w' => e = .returned (.int .i64 2) ∧ Below w.heap.size w w' := by
  obtain ⟨w1, e1, b1, s1, h1⟩ := boxed w (recCells n (.slice ae es.length ce) (.slice af fs.length cf)) 25
  have E1 := Lib.hid (show w.alloc (.cells #[.int .i64 n.kind, .int .i64 n.stream, .int .i64 n.epoch, .int .i64 n.view, .int .i64 n.frm, .int .i64 n.length, .slice ae es.length ce, .slice af fs.length cf] 25) = w1 from e1)
  obtain ⟨c0, c1, c2, c3, c4, c5, c6, c7⟩ := rec_cells h1
  have HM := refMayR_any n (he.below b1) (hf.below b1) hl hlf
  rw [h] at HM
  have HM := Lib.hid HM
  clear e1 h1 he hf h
  go_enter Try.func13, Try.ntmps13
  go_wp2_with fail
  (try rw [E1.out])
  refine HM.out.mono ?_
  rintro e w2 ⟨rfl, b2⟩
  go_wp2
  go_ret
  exact ⟨rfl, b1.trans (b2.mono b1.size)⟩
/-- The entry behind the copy. -/
def sentE : Ent := ⟨-70, ⟨0, 0, 0, 0, 0⟩⟩
def sentF : Spt := ⟨0, -70⟩
set_option maxRecDepth 100000 in
set_option maxHeartbeats 8000000 in
theorem recordsEncode_walk (n : RNum) (es : List Ent) (fs : List Spt) (v : Value) (w : World) (hR : RecIn w v n es fs) :
    Calls Try.prog 3 #[v] w fun e w' => e = .returned (.bool true) ∧ Below w.heap.size w w' := by
  obtain ⟨ae, ce, af, cf, rfl, hn, he, hf⟩ := hR.parts
  clear hR
  obtain ⟨w1, e1, b1, s1, g1⟩ := boxed w (recCells n (.slice ae es.length ce) (.slice af fs.length cf)) 25
  have E1 := Lib.hid (show w.alloc (.cells #[.int .i64 n.kind, .int .i64 n.stream, .int .i64 n.epoch, .int .i64 n.view, .int .i64 n.frm, .int .i64 n.length, .slice ae es.length ce, .slice af fs.length cf] 25) = w1 from e1)
  have R1 := Lib.hid (show recAt w1 w.heap.size n (.slice ae es.length ce) (.slice af fs.length cf) from rec_cells g1)
  obtain ⟨c0, c1, c2, c3, c4, c5, c6, c7⟩ := R1.out
  clear e1 g1
  by_cases hgr : 500 < es.length ∨ 1000 < fs.length
  · have HG := Lib.hid (great_yes (w := w1) n (ae := ae) (af := af) (ce := ce) (cf := cf) hgr)
    clear hgr he hf hn
    go_enter Try.func3, Try.ntmps3
    go_wp2_with fail
    rw [E1.out]
    refine HG.out.mono ?_
    rintro e w2 ⟨rfl, b2⟩
    go_wp2
    go_ret
    exact ⟨rfl, b1.trans (b2.mono b1.size)⟩
  · have HG := Lib.hid (great_no (w := w1) n (ae := ae) (af := af) (ce := ce) (cf := cf) (le := es.length) (lf := fs.length) (by omega) (by omega))
    have HW := Lib.hid works_any
    have hz1 : es.length ≤ 500 := by omega
    have hz2 : fs.length ≤ 1000 := by omega
    clear hgr
    have HN := Lib.hid hn
    have HOE := Lib.hid he.2.2
    have HOF := Lib.hid hf.2.2
    have HE := Lib.hid (he.1.below b1)
    have HF := Lib.hid (hf.1.below b1)
    have HLE := Lib.hid (fun (h : ae = none) => (show es.length = 0 ∧ ce = 0 by have := (he.2.1 ae es.length ce rfl); have := this.2.2 h; omega))
    have HLF := Lib.hid (fun (h : af = none) => (show fs.length = 0 ∧ cf = 0 by have := (hf.2.1 af fs.length cf rfl); have := this.2.2 h; omega))
    obtain ⟨ZE, hZE⟩ := make_ents es.length (by omega)
    obtain ⟨ZF, hZF⟩ := make_spts fs.length (by omega)
    have mkE := fun w => (hZE w).1
    have mkF := fun w => (hZF w).1
    have OE := Lib.hid (fun w => (hZE w).2)
    have OF := Lib.hid (fun w => (hZF w).2)
    obtain ⟨i0, hi, hy0, hy1, hy2⟩ := info_parts info_ent
    have HI := Lib.hid (And.intro hi (And.intro hy0 (And.intro hy1 hy2)))
    obtain ⟨j0, hj, hx0, hx1, hx2⟩ := info_parts info_spt
    have HJ := Lib.hid (And.intro hj (And.intro hx0 (And.intro hx1 hx2)))
    have hw1 : IntKind.i64.wrap ((es.length : Int) + 1) = (es.length : Int) + 1 := IntWalk.i64_in _ (by omega)
    have hw2 : IntKind.i64.wrap ((fs.length : Int) + 1) = (fs.length : Int) + 1 := IntWalk.i64_in _ (by omega)
    clear he hf hn hZE hZF hi hy0 hy1 hy2 hj hx0 hx1 hx2
    go_enter Try.func3, Try.ntmps3
    go_wp2_with fail
    rw [E1.out]
    refine HG.out.mono ?_
    rintro e w2 ⟨rfl, b2⟩
    have s2 := b2.size
    clear c0 c1 c2 c3 c4 c5 c6 c7
    obtain ⟨c0, c1, c2, c3, c4, c5, c6, c7⟩ := R1.out.below (by omega) b2
    go_upto_region 4 with fail
    obtain ⟨w3, e3, b3, s3, g3⟩ := boxed w2 (recCells n (.slice ae es.length ce) (.slice af fs.length cf)) 25
    rw [show w2.alloc (.cells #[.int .i64 n.kind, .int .i64 n.stream, .int .i64 n.epoch, .int .i64 n.view, .int .i64 n.frm, .int .i64 n.length, .slice ae es.length ce, .slice af fs.length cf] 25) = w3 from e3]
    have b23 := b2.trans (b3.mono s2)
    have R3 := Lib.hid (R1.out.below (by omega) b23)
    have HE3 := Lib.hid (HE.out.below b23)
    have HF3 := Lib.hid (HF.out.below b23)
    have G3 := Lib.hid g3
    have hs3 := b3.size
    have hTs : w2.heap.size < w3.heap.size := by omega
    have hRT : w.heap.size ≠ w2.heap.size := by omega
    clear c0 c1 c2 c3 c4 c5 c6 c7 e3 g3 s3
    go_cut [] (fun wx => ∃ g cap, wx.heap[w2.heap.size]? = some (.cells (recCells n (.slice (some ⟨g, 0, none⟩) es.length cap) (.slice af fs.length cf)) 25 (0, 0)) ∧ wx.ownsRow w3.heap.size 30 6 (.slice (some ⟨g, 0, none⟩) (es.length + 1) cap) (es.length + 1) (entVals es ++ #[.int .i64 (-70), .int .i64 0, .int .i64 0, .int .i64 0, .int .i64 0, .int .i64 0].toList) ∧ Wrote w2.heap.size w2.heap.size w3 wx)
    case first =>
      obtain ⟨c0, c1, c2, c3, c4, c5, c6, c7⟩ := R3.out
      obtain ⟨t0, t1, t2, t3, t4, t5, t6, t7⟩ := rec_cells G3.out
      have ff := thawed G3.out 6
      have hRs : w.heap.size < w3.heap.size := by omega
      obtain ⟨wA, eA, OA, bA⟩ : ∃ wA, (w3.alloc (.cells ZE 30)).drew = wA ∧ wA.ownsRow w3.heap.size 30 6 (.slice (some ⟨w3.heap.size, 0, none⟩) 0 (es.length + 1)) 0 [] ∧ Below w3.heap.size w3 wA := ⟨_, rfl, drew_owns (OE.out w3), ((Below.refl _ _).alloc (Nat.le_refl _) _).drew⟩
      obtain ⟨wB, eB, OB, bB, cB⟩ : ∃ wA, ((w3.alloc (.cells ZE 30)).alloc (.cells #[.int .i64 (-70), .int .i64 0, .int .i64 0, .int .i64 0, .int .i64 0, .int .i64 0] 30)).drew = wA ∧ wA.ownsRow w3.heap.size 30 6 (.slice (some ⟨w3.heap.size, 0, none⟩) 0 (es.length + 1)) 0 [] ∧ Below w3.heap.size w3 wA ∧ ∀ j u, #[.int .i64 (-70), .int .i64 0, .int .i64 0, .int .i64 0, .int .i64 0, .int .i64 0].toList[j]? = some u → wA.cell? ((⟨w3.heap.size + 1, 0, none⟩ : Addr).add j) = some u :=
        ⟨_, rfl, drew_owns ((OE.out w3).alloc _), (((Below.refl _ _).alloc (Nat.le_refl _) _).alloc (by simp) _).drew, by have := row_at (w3.alloc (.cells ZE 30)) #[.int .i64 (-70), .int .i64 0, .int .i64 0, .int .i64 0, .int .i64 0, .int .i64 0].toList 30; rw [World.size_alloc] at this; exact this⟩
      obtain ⟨wC, eC, OC, bC, cC⟩ : ∃ wA, ((w3.alloc (.cells #[.int .i64 (-70), .int .i64 0, .int .i64 0, .int .i64 0, .int .i64 0, .int .i64 0] 30)).alloc (.cells ZE 30)).drew = wA ∧ wA.ownsRow w3.heap.size 30 6 (.slice (some ⟨w3.heap.size + 1, 0, none⟩) 0 (es.length + 1)) 0 [] ∧ Below w3.heap.size w3 wA ∧ ∀ j u, #[.int .i64 (-70), .int .i64 0, .int .i64 0, .int .i64 0, .int .i64 0, .int .i64 0].toList[j]? = some u → wA.cell? ((⟨w3.heap.size, 0, none⟩ : Addr).add j) = some u := by
        have b := ((Below.refl w3.heap.size w3).alloc (Nat.le_refl _) (.cells #[.int .i64 (-70), .int .i64 0, .int .i64 0, .int .i64 0, .int .i64 0, .int .i64 0] 30))
        have o := OE.out (w3.alloc (.cells #[.int .i64 (-70), .int .i64 0, .int .i64 0, .int .i64 0, .int .i64 0, .int .i64 0] 30))
        rw [World.size_alloc] at o
        refine ⟨_, rfl, drew_owns (owns_le o (by omega)), (b.alloc (by simp) _).drew, fun j u hj => ?_⟩
        have h := row_at w3 #[.int .i64 (-70), .int .i64 0, .int .i64 0, .int .i64 0, .int .i64 0, .int .i64 0].toList 30 j u hj
        rw [add_off] at h ⊢
        exact (((Below.refl _ _).alloc (Nat.le_refl _) _ : Below (w3.alloc (.cells #[.int .i64 (-70), .int .i64 0, .int .i64 0, .int .i64 0, .int .i64 0, .int .i64 0] 30)).heap.size (w3.alloc (.cells #[.int .i64 (-70), .int .i64 0, .int .i64 0, .int .i64 0, .int .i64 0, .int .i64 0] 30)) _).cell (p := ⟨w3.heap.size, 0 + j, none⟩) (by simp)).trans h
      have EA := Lib.hid eA
      have EB := Lib.hid eB
      have EC := Lib.hid eC
      have sA : w3.heap.size < wA.heap.size := by rw [← eA]; show w3.heap.size < (w3.alloc _).heap.size; simp
      have sB : w3.heap.size + 1 < wB.heap.size := by rw [← eB]; show w3.heap.size + 1 < ((w3.alloc _).alloc _).heap.size; simp
      have sC : w3.heap.size < wC.heap.size := by rw [← eC]; show w3.heap.size < ((w3.alloc _).alloc _).heap.size; simp; omega
      have hcA := Lib.hid (ents_hc (HE3.out.below bA))
      have hcB := Lib.hid (ents_hc (HE3.out.below bB))
      have hcC := Lib.hid (ents_hc (HE3.out.below bC))
      have HOA := Lib.hid OA
      have HOB := Lib.hid OB
      have HOC := Lib.hid OC
      have HCB := Lib.hid cB
      have HCC := Lib.hid cC
      have hQ : ∀ wx, Below w3.heap.size w3 wx → wx.cell? ⟨w.heap.size, 6, none⟩ = some (.slice ae es.length ce) := fun wx hb => (hb.cell (p := ⟨w.heap.size, 6, none⟩) hRs).trans c6
      have HQ := Lib.hid hQ
      clear eA eB eC OA OB OC cB cC c0 c1 c2 c3 c4 c5 t0 t1 t2 t3 t4 t5 hQ
      go_region_held3 (fun w' => w'.cell? ⟨w.heap.size, 6, none⟩ = some (.slice ae es.length ce))
        (first | exact c6 | exact q3 | exact q2 | exact q1 | (rw [EA.out]; exact HQ.out _ bA) | (rw [EB.out]; exact HQ.out _ bB) | (rw [EC.out]; exact HQ.out _ bC) | go_keep)
        (first
          | (have qq := q1; rw [E1b.out]; refine step_copy (by rfl) (.tmp 18) (.tmp 20) 22 (by rfl) w3.heap.size 30 i0 (.agg (entCells noEnt)) 6 48 Try.underlying22 HI.out.1 HI.out.2.1 HI.out.2.2.1 HI.out.2.2.2 rfl (by decide) _ (es.length) (entVals es) (by rfl) O1b (some _) 1 1 (by rfl) (fun h => by cases h) #[.int .i64 (-70), .int .i64 0, .int .i64 0, .int .i64 0, .int .i64 0, .int .i64 0].toList rfl (fun ad h => by cases h; exact C1b) (by simp [Value.oneCell']) (by unfold maxLen; omega) (by omega) (by omega) ?_; intro v2 wv2 hown2 hgr2; obtain ⟨g2, cap2, rfl, k1, k2, k3⟩ := own_form hown2; have bv2 := (b1b (by omega)).grown hgr2 (by omega) (fun k hk => (O1b.lt k hk).1); have q2 := HQ.out _ bv2; have u6 := (bv2.cell (p := ⟨w2.heap.size, 6, none⟩) hTs).trans t6; have uf := thawed ((bv2.block w2.heap.size hTs).trans G3.out) 6; have q3 := set_keeps (T := w2.heap.size) (k := 6) (v := .slice (some ⟨g2, 0, none⟩) es.length cap2) q2 hRT; have HO2 := Lib.hid hown2; clear hown2 hgr2)
          | (have qq := hBc; refine step_copy (by rfl) (.tmp 18) (.tmp 20) 22 (by rfl) w3.heap.size 30 i0 (.agg (entCells noEnt)) 6 48 Try.underlying22 HI.out.1 HI.out.2.1 HI.out.2.2.1 HI.out.2.2.2 rfl (by decide) _ (es.length) (entVals es) (by rfl) hown1 (some _) 1 1 (by rfl) (fun h => by cases h) #[.int .i64 (-70), .int .i64 0, .int .i64 0, .int .i64 0, .int .i64 0, .int .i64 0].toList rfl (fun ad h => by cases h; exact hBc) (by simp [Value.oneCell']) (by unfold maxLen; omega) (by omega) (by omega) ?_; intro v2 wv2 hown2 hgr2; obtain ⟨g2, cap2, rfl, k1, k2, k3⟩ := own_form hown2; have bv2 := bv1.grown hgr2 (by omega) (fun k hk => (hown1.lt k hk).1); have q2 := HQ.out _ bv2; have u6 := (bv2.cell (p := ⟨w2.heap.size, 6, none⟩) hTs).trans t6; have uf := thawed ((bv2.block w2.heap.size hTs).trans G3.out) 6; have q3 := set_keeps (T := w2.heap.size) (k := 6) (v := .slice (some ⟨g2, 0, none⟩) es.length cap2) q2 hRT; have HO2 := Lib.hid hown2; clear hown2 hgr2)
          | (rw [EB.out]; refine step_copy (by rfl) (.tmp 15) (.tmp 17) 22 (by rfl) w3.heap.size 30 i0 (.agg (entCells noEnt)) 6 48 Try.underlying22 HI.out.1 HI.out.2.1 HI.out.2.2.1 HI.out.2.2.2 rfl (by decide) _ 0 [] (by rfl) HOB.out ae es.length ce (by rfl) HLE.out (entVals es) (by rw [entVals_len]) hcB.out (entVals_one es) (by unfold maxLen; omega) (by omega) (by omega) ?_; intro v1 wv1 hown1' hgr1; have hown1 : wv1.ownsRow w3.heap.size 30 6 v1 es.length (entVals es) := (by simpa using hown1'); have bv1 := bB.grown hgr1 (by omega) (fun k hk => (HOB.out.lt k hk).1); have q1 := HQ.out _ bv1; have s1y := bv1.size; have hBc := grown_row hgr1 sB (by omega) HCB.out HOB.out; clear hown1')
          | (rw [EC.out]; refine step_copy (by rfl) (.tmp 15) (.tmp 17) 22 (by rfl) w3.heap.size 30 i0 (.agg (entCells noEnt)) 6 48 Try.underlying22 HI.out.1 HI.out.2.1 HI.out.2.2.1 HI.out.2.2.2 rfl (by decide) _ 0 [] (by rfl) HOC.out ae es.length ce (by rfl) HLE.out (entVals es) (by rw [entVals_len]) hcC.out (entVals_one es) (by unfold maxLen; omega) (by omega) (by omega) ?_; intro v1 wv1 hown1' hgr1; have hown1 : wv1.ownsRow w3.heap.size 30 6 v1 es.length (entVals es) := (by simpa using hown1'); have bv1 := bC.grown hgr1 (by omega) (fun k hk => (HOC.out.lt k hk).1); have q1 := HQ.out _ bv1; have s1y := bv1.size; have hBc := grown_row hgr1 sC (by omega) HCC.out HOC.out; clear hown1')
          | (rw [EA.out]; refine step_copy (by rfl) (.tmp 15) (.tmp 17) 22 (by rfl) w3.heap.size 30 i0 (.agg (entCells noEnt)) 6 48 Try.underlying22 HI.out.1 HI.out.2.1 HI.out.2.2.1 HI.out.2.2.2 rfl (by decide) _ 0 [] (by rfl) HOA.out ae es.length ce (by rfl) HLE.out (entVals es) (by rw [entVals_len]) hcA.out (entVals_one es) (by unfold maxLen; omega) (by omega) (by omega) ?_; intro v1 wv1 hown1' hgr1; have hown1 : wv1.ownsRow w3.heap.size 30 6 v1 es.length (entVals es) := (by simpa using hown1'); have bv1 := bA.grown hgr1 (by omega) (fun k hk => (HOA.out.lt k hk).1); have q1 := HQ.out _ bv1; obtain ⟨wv1b, e1b, O1b, C1b, b1b, s1b⟩ := copy_next (t := 30) hown1 bv1 #[.int .i64 (-70), .int .i64 0, .int .i64 0, .int .i64 0, .int .i64 0, .int .i64 0].toList; have s1x := bv1.size; have E1b := Lib.hid e1b; clear e1b hown1'))
      all_goals
        go_wp2_with fail
        go_meet
        obtain ⟨z1, z2, z3⟩ := copy_done bv2 hTs G3.out HO2.out 6 (.slice (some ⟨g2, 0, none⟩) es.length cap2)
        exact ⟨g2, cap2, z1, z2, z3⟩
    case rest =>
    obtain ⟨gE, capE, hrow4, howE, hW4⟩ := hcut
    obtain ⟨w4, hw4⟩ : ∃ w4, wc = w4 := ⟨_, rfl⟩
    rw [hw4] at hrow4 howE hW4
    rw [hw4]
    clear hw4
    have b14 : Below w1.heap.size w1 w4 := b23.trans ((hW4.toBelow (B := w2.heap.size) (by omega) (Nat.le_refl _) (Nat.le_refl _)).mono s2)
    have hs4 := hW4.below.size
    have R4 := Lib.hid (R1.out.below (by omega) b14)
    have HF4 := Lib.hid (HF.out.below b14)
    have G4 := Lib.hid hrow4
    have HOW := Lib.hid howE
    have hTs : w2.heap.size < w4.heap.size := by omega
    clear hrow4 howE
    go_upto_region 5 with fail
    go_cut [] (fun wx => ∃ g cap, wx.heap[w2.heap.size]? = some (.cells (recCells n (.slice (some ⟨gE, 0, none⟩) es.length capE) (.slice (some ⟨g, 0, none⟩) fs.length cap)) 25 (0, 0)) ∧ wx.ownsRow w4.heap.size 32 2 (.slice (some ⟨g, 0, none⟩) (fs.length + 1) cap) (fs.length + 1) (sptVals fs ++ #[.int .i64 0, .int .i64 (-70)].toList) ∧ Wrote w2.heap.size w2.heap.size w4 wx)
    case first =>
      obtain ⟨c0, c1, c2, c3, c4, c5, c6, c7⟩ := R4.out
      obtain ⟨t0, t1, t2, t3, t4, t5, t6, t7⟩ := rec_cells G4.out
      have ff := thawed G4.out 7
      have hRs : w.heap.size < w4.heap.size := by omega
      obtain ⟨wA, eA, OA, bA⟩ : ∃ wA, (w4.alloc (.cells ZF 32)).drew = wA ∧ wA.ownsRow w4.heap.size 32 2 (.slice (some ⟨w4.heap.size, 0, none⟩) 0 (fs.length + 1)) 0 [] ∧ Below w4.heap.size w4 wA := ⟨_, rfl, drew_owns (OF.out w4), ((Below.refl _ _).alloc (Nat.le_refl _) _).drew⟩
      obtain ⟨wB, eB, OB, bB, cB⟩ : ∃ wA, ((w4.alloc (.cells ZF 32)).alloc (.cells #[.int .i64 0, .int .i64 (-70)] 32)).drew = wA ∧ wA.ownsRow w4.heap.size 32 2 (.slice (some ⟨w4.heap.size, 0, none⟩) 0 (fs.length + 1)) 0 [] ∧ Below w4.heap.size w4 wA ∧ ∀ j u, #[.int .i64 0, .int .i64 (-70)].toList[j]? = some u → wA.cell? ((⟨w4.heap.size + 1, 0, none⟩ : Addr).add j) = some u :=
        ⟨_, rfl, drew_owns ((OF.out w4).alloc _), (((Below.refl _ _).alloc (Nat.le_refl _) _).alloc (by simp) _).drew, by have := row_at (w4.alloc (.cells ZF 32)) #[.int .i64 0, .int .i64 (-70)].toList 32; rw [World.size_alloc] at this; exact this⟩
      obtain ⟨wC, eC, OC, bC, cC⟩ : ∃ wA, ((w4.alloc (.cells #[.int .i64 0, .int .i64 (-70)] 32)).alloc (.cells ZF 32)).drew = wA ∧ wA.ownsRow w4.heap.size 32 2 (.slice (some ⟨w4.heap.size + 1, 0, none⟩) 0 (fs.length + 1)) 0 [] ∧ Below w4.heap.size w4 wA ∧ ∀ j u, #[.int .i64 0, .int .i64 (-70)].toList[j]? = some u → wA.cell? ((⟨w4.heap.size, 0, none⟩ : Addr).add j) = some u := by
        have b := ((Below.refl w4.heap.size w4).alloc (Nat.le_refl _) (.cells #[.int .i64 0, .int .i64 (-70)] 32))
        have o := OF.out (w4.alloc (.cells #[.int .i64 0, .int .i64 (-70)] 32))
        rw [World.size_alloc] at o
        refine ⟨_, rfl, drew_owns (owns_le o (by omega)), (b.alloc (by simp) _).drew, fun j u hj => ?_⟩
        have h := row_at w4 #[.int .i64 0, .int .i64 (-70)].toList 32 j u hj
        rw [add_off] at h ⊢
        exact (((Below.refl _ _).alloc (Nat.le_refl _) _ : Below (w4.alloc (.cells #[.int .i64 0, .int .i64 (-70)] 32)).heap.size (w4.alloc (.cells #[.int .i64 0, .int .i64 (-70)] 32)) _).cell (p := ⟨w4.heap.size, 0 + j, none⟩) (by simp)).trans h
      have EA := Lib.hid eA
      have EB := Lib.hid eB
      have EC := Lib.hid eC
      have sA : w4.heap.size < wA.heap.size := by rw [← eA]; show w4.heap.size < (w4.alloc _).heap.size; simp
      have sB : w4.heap.size + 1 < wB.heap.size := by rw [← eB]; show w4.heap.size + 1 < ((w4.alloc _).alloc _).heap.size; simp
      have sC : w4.heap.size < wC.heap.size := by rw [← eC]; show w4.heap.size < ((w4.alloc _).alloc _).heap.size; simp; omega
      have hcA := Lib.hid (spts_hc (HF4.out.below bA))
      have hcB := Lib.hid (spts_hc (HF4.out.below bB))
      have hcC := Lib.hid (spts_hc (HF4.out.below bC))
      have HOA := Lib.hid OA
      have HOB := Lib.hid OB
      have HOC := Lib.hid OC
      have HCB := Lib.hid cB
      have HCC := Lib.hid cC
      have hQ : ∀ wx, Below w4.heap.size w4 wx → wx.cell? ⟨w.heap.size, 7, none⟩ = some (.slice af fs.length cf) := fun wx hb => (hb.cell (p := ⟨w.heap.size, 7, none⟩) hRs).trans c7
      have HQ := Lib.hid hQ
      clear eA eB eC OA OB OC cB cC c0 c1 c2 c3 c4 c5 t0 t1 t2 t3 t4 t5 hQ
      go_region_held3 (fun w' => w'.cell? ⟨w.heap.size, 7, none⟩ = some (.slice af fs.length cf))
        (first | exact c7 | exact q3 | exact q2 | exact q1 | (rw [EA.out]; exact HQ.out _ bA) | (rw [EB.out]; exact HQ.out _ bB) | (rw [EC.out]; exact HQ.out _ bC) | go_keep)
        (first
          | (have qq := q1; rw [E1b.out]; refine step_copy (by rfl) (.tmp 34) (.tmp 36) 23 (by rfl) w4.heap.size 32 j0 (.agg (sptCells noSpt)) 2 16 Try.underlying23 HJ.out.1 HJ.out.2.1 HJ.out.2.2.1 HJ.out.2.2.2 rfl (by decide) _ (fs.length) (sptVals fs) (by rfl) O1b (some _) 1 1 (by rfl) (fun h => by cases h) #[.int .i64 0, .int .i64 (-70)].toList rfl (fun ad h => by cases h; exact C1b) (by simp [Value.oneCell']) (by unfold maxLen; omega) (by omega) (by omega) ?_; intro v2 wv2 hown2 hgr2; obtain ⟨g2, cap2, rfl, k1, k2, k3⟩ := own_form hown2; have bv2 := (b1b (by omega)).grown hgr2 (by omega) (fun k hk => (O1b.lt k hk).1); have q2 := HQ.out _ bv2; have u6 := (bv2.cell (p := ⟨w2.heap.size, 7, none⟩) hTs).trans t7; have uf := thawed ((bv2.block w2.heap.size hTs).trans G4.out) 7; have q3 := set_keeps (T := w2.heap.size) (k := 7) (v := .slice (some ⟨g2, 0, none⟩) fs.length cap2) q2 hRT; have HO2 := Lib.hid hown2; clear hown2 hgr2)
          | (have qq := hBc; refine step_copy (by rfl) (.tmp 34) (.tmp 36) 23 (by rfl) w4.heap.size 32 j0 (.agg (sptCells noSpt)) 2 16 Try.underlying23 HJ.out.1 HJ.out.2.1 HJ.out.2.2.1 HJ.out.2.2.2 rfl (by decide) _ (fs.length) (sptVals fs) (by rfl) hown1 (some _) 1 1 (by rfl) (fun h => by cases h) #[.int .i64 0, .int .i64 (-70)].toList rfl (fun ad h => by cases h; exact hBc) (by simp [Value.oneCell']) (by unfold maxLen; omega) (by omega) (by omega) ?_; intro v2 wv2 hown2 hgr2; obtain ⟨g2, cap2, rfl, k1, k2, k3⟩ := own_form hown2; have bv2 := bv1.grown hgr2 (by omega) (fun k hk => (hown1.lt k hk).1); have q2 := HQ.out _ bv2; have u6 := (bv2.cell (p := ⟨w2.heap.size, 7, none⟩) hTs).trans t7; have uf := thawed ((bv2.block w2.heap.size hTs).trans G4.out) 7; have q3 := set_keeps (T := w2.heap.size) (k := 7) (v := .slice (some ⟨g2, 0, none⟩) fs.length cap2) q2 hRT; have HO2 := Lib.hid hown2; clear hown2 hgr2)
          | (rw [EB.out]; refine step_copy (by rfl) (.tmp 31) (.tmp 33) 23 (by rfl) w4.heap.size 32 j0 (.agg (sptCells noSpt)) 2 16 Try.underlying23 HJ.out.1 HJ.out.2.1 HJ.out.2.2.1 HJ.out.2.2.2 rfl (by decide) _ 0 [] (by rfl) HOB.out af fs.length cf (by rfl) HLF.out (sptVals fs) (by rw [sptVals_len]) hcB.out (sptVals_one fs) (by unfold maxLen; omega) (by omega) (by omega) ?_; intro v1 wv1 hown1' hgr1; have hown1 : wv1.ownsRow w4.heap.size 32 2 v1 fs.length (sptVals fs) := (by simpa using hown1'); have bv1 := bB.grown hgr1 (by omega) (fun k hk => (HOB.out.lt k hk).1); have q1 := HQ.out _ bv1; have s1y := bv1.size; have hBc := grown_row hgr1 sB (by omega) HCB.out HOB.out; clear hown1')
          | (rw [EC.out]; refine step_copy (by rfl) (.tmp 31) (.tmp 33) 23 (by rfl) w4.heap.size 32 j0 (.agg (sptCells noSpt)) 2 16 Try.underlying23 HJ.out.1 HJ.out.2.1 HJ.out.2.2.1 HJ.out.2.2.2 rfl (by decide) _ 0 [] (by rfl) HOC.out af fs.length cf (by rfl) HLF.out (sptVals fs) (by rw [sptVals_len]) hcC.out (sptVals_one fs) (by unfold maxLen; omega) (by omega) (by omega) ?_; intro v1 wv1 hown1' hgr1; have hown1 : wv1.ownsRow w4.heap.size 32 2 v1 fs.length (sptVals fs) := (by simpa using hown1'); have bv1 := bC.grown hgr1 (by omega) (fun k hk => (HOC.out.lt k hk).1); have q1 := HQ.out _ bv1; have s1y := bv1.size; have hBc := grown_row hgr1 sC (by omega) HCC.out HOC.out; clear hown1')
          | (rw [EA.out]; refine step_copy (by rfl) (.tmp 31) (.tmp 33) 23 (by rfl) w4.heap.size 32 j0 (.agg (sptCells noSpt)) 2 16 Try.underlying23 HJ.out.1 HJ.out.2.1 HJ.out.2.2.1 HJ.out.2.2.2 rfl (by decide) _ 0 [] (by rfl) HOA.out af fs.length cf (by rfl) HLF.out (sptVals fs) (by rw [sptVals_len]) hcA.out (sptVals_one fs) (by unfold maxLen; omega) (by omega) (by omega) ?_; intro v1 wv1 hown1' hgr1; have hown1 : wv1.ownsRow w4.heap.size 32 2 v1 fs.length (sptVals fs) := (by simpa using hown1'); have bv1 := bA.grown hgr1 (by omega) (fun k hk => (HOA.out.lt k hk).1); have q1 := HQ.out _ bv1; obtain ⟨wv1b, e1b, O1b, C1b, b1b, s1b⟩ := copy_next (t := 32) hown1 bv1 #[.int .i64 0, .int .i64 (-70)].toList; have s1x := bv1.size; have E1b := Lib.hid e1b; clear e1b hown1'))
      all_goals
        go_wp2_with fail
        go_meet
        obtain ⟨z1, z2, z3⟩ := copy_done bv2 hTs G4.out HO2.out 7 (.slice (some ⟨g2, 0, none⟩) fs.length cap2)
        exact ⟨g2, cap2, z1, z2, z3⟩
    case rest =>
    obtain ⟨gF, capF, hrow5, howF, hW5⟩ := hcut
    obtain ⟨w5, hw5⟩ : ∃ w5, wc = w5 := ⟨_, rfl⟩
    rw [hw5] at hrow5 howF hW5
    rw [hw5]
    clear hw5
    have b15 : Below w1.heap.size w1 w5 := b14.trans ((hW5.toBelow (B := w2.heap.size) (by omega) (Nat.le_refl _) (Nat.le_refl _)).mono s2)
    have hs5 := hW5.below.size
    have howE5 := owns_wrote HOW.out hW5 (by omega)
    have hcE := own_form howE5
    have hcF := own_form howF
    obtain ⟨_, _, hv1, _, hcE1, hcE2⟩ := hcE
    cases hv1
    obtain ⟨_, _, hv2, _, hcF1, hcF2⟩ := hcF
    cases hv2
    have y0 := owns_behind (j := 0) howE5 (entVals_len es) rfl
    have y1 := owns_behind (j := 1) howF (sptVals_len fs) rfl
    rw [Nat.add_zero] at y0
    have XE := Lib.hid (ents_owned (B' := w5.heap.size) (owns_prefix howE5 (entVals_len es) rfl))
    have XF := Lib.hid (spts_owned (B' := w5.heap.size) (owns_prefix howF (sptVals_len fs) rfl))
    have R5 := Lib.hid (R1.out.below (by omega) b15)
    have T5 := Lib.hid (show recAt w5 w2.heap.size n (.slice (some ⟨gE, 0, none⟩) es.length capE) (.slice (some ⟨gF, 0, none⟩) fs.length capF) from rec_cells hrow5)
    have hTs5 : w2.heap.size < w5.heap.size := by omega
    have hRs5 : w.heap.size < w5.heap.size := by omega
    have Y0 := Lib.hid y0
    have Y1 := Lib.hid y1
    have B5 := b1.trans (b15.mono b1.size)
    obtain ⟨t0, t1, t2, t3, t4, t5, t6, t7⟩ := T5.out
    clear hrow5 howF howE5 y0 y1 mkE mkF HOW G4 G3
    have hgEl : gE < w5.heap.size := World.block_lt_of_cell? w5 ⟨gE, es.length * 6, none⟩ Y0.out
    have hgFl : gF < w5.heap.size := World.block_lt_of_cell? w5 ⟨gF, fs.length * 2 + 1, none⟩ Y1.out
    cases hm : mayR n es fs with
    | false =>
      have HM := Lib.hid hm
      clear hm
      have X6 := Lib.hid (encodeR_no XE.out XF.out (by omega) (by omega) HM.out)
      have X7 := Lib.hid (fun (w6 : World) (b6 : Below w5.heap.size w5 w6) => refEncR_no (HE.out.below (b15.trans (b6.mono b15.size))) (HF.out.below (b15.trans (b6.mono b15.size))) (by omega) (by omega) HM.out)
      have XA := Lib.hid (fun (w7 : World) (b7 : Below w5.heap.size w5 w7) (d : Nat) (os : Array Obj) => checkR_no (XE.out.below (b7.trans ((below_regrown w7 d os).mono b7.size))) (XF.out.below (b7.trans ((below_regrown w7 d os).mono b7.size))) (by omega) (by omega) HM.out)
      have XB := Lib.hid (fun (w7 : World) (b7 : Below w5.heap.size w5 w7) (d : Nat) (os : Array Obj) => refCheckR_no ((HE.out.below (b15.trans (b7.mono b15.size))).below (below_regrown w7 d os)) ((HF.out.below (b15.trans (b7.mono b15.size))).below (below_regrown w7 d os)) (by omega) (by omega) HM.out)
      have XC := Lib.hid (fun (w7 : World) (b7 : Below w5.heap.size w5 w7) (d : Nat) (os : Array Obj) => same_any n (XE.out.below (b7.trans ((below_regrown w7 d os).mono b7.size))) (XF.out.below (b7.trans ((below_regrown w7 d os).mono b7.size))) ((HE.out.below (b15.trans (b7.mono b15.size))).below (below_regrown w7 d os)) ((HF.out.below (b15.trans (b7.mono b15.size))).below (below_regrown w7 d os)) (by omega) (by omega))
      go_wp2_with fail
      refine X6.out.mono ?_
      rintro e w6 ⟨rfl, b6⟩
      have s6 := b6.size
      clear t0 t1 t2 t3 t4 t5 t6 t7
      obtain ⟨c0, c1, c2, c3, c4, c5, c6, c7⟩ := R5.out.below hRs5 b6
      have Z7 := Lib.hid (X7.out w6 b6)
      go_wp2_with fail
      refine Z7.out.mono ?_
      rintro e w7 ⟨rfl, b7⟩
      have b57 := b6.trans (b7.mono s6)
      clear c0 c1 c2 c3 c4 c5 c6 c7
      obtain ⟨c0, c1, c2, c3, c4, c5, c6, c7⟩ := R5.out.below hRs5 b57
      obtain ⟨t0, t1, t2, t3, t4, t5, t6, t7⟩ := T5.out.below hTs5 b57
      have y0 := (b57.cell (p := ⟨gE, es.length * 6, none⟩) hgEl).trans Y0.out
      have y1 := (b57.cell (p := ⟨gF, fs.length * 2 + 1, none⟩) hgFl).trans Y1.out
      have ZA := Lib.hid (XA.out w7 b57)
      have ZB := Lib.hid (XB.out w7 b57)
      have ZC := Lib.hid (XC.out w7 b57)
      have B7 := Lib.hid (B5.trans (b57.mono B5.size))
      go_upto_region 8 with fail
      have k0 := cell_regrown c0
      have k1 := cell_regrown c1
      have k2 := cell_regrown c2
      have k3 := cell_regrown c3
      have k4 := cell_regrown c4
      have k5 := cell_regrown c5
      have k6 := cell_regrown c6
      have k7 := cell_regrown c7
      have l0 := cell_regrown t0
      have l1 := cell_regrown t1
      have l2 := cell_regrown t2
      have l3 := cell_regrown t3
      have l4 := cell_regrown t4
      have l5 := cell_regrown t5
      have l6 := cell_regrown t6
      have l7 := cell_regrown t7
      have m0 := cell_regrown y0
      have m1 := cell_regrown y1
      refine wp_region_quiet_below (by kernel_rfl) (by kernel_rfl) ?_
      repeat (go_big_quiet_step ((first | (go_at_call 12; exact Calls.regrown_of (ZA.out _ _)) | (go_at_call 13; exact Calls.regrown_of (ZB.out _ _)) | (go_at_call 14; exact Calls.regrown_of (ZC.out _ _)) | (go_at_call 15; exact Calls.regrown_of (HW.out _)))))
      refine wpQuiet_nil ?_
      intro _ hw'
      obtain ⟨⟨dq, osq⟩, hw''⟩ := hw'
      subst hw''
      have hb8 := below_regrown w7 dq osq
      clear k0 k1 k2 k3 k4 k5 k6 k7 l0 l1 l2 l3 l4 l5 l6 l7 m0 m1
      generalize Sort.grow (redrawn w7 dq) osq = wq at *
      go_wp2
      go_ret
      exact ⟨rfl, B7.out.trans (hb8.mono B7.out.size)⟩
    | true =>
      have HM := Lib.hid hm
      clear hm
      have X6 := Lib.hid (encodeR_yes XE.out XF.out HN.out HOE.out HOF.out HM.out)
      have X7 := Lib.hid (fun (w6 : World) (b6 : Below w5.heap.size w5 w6) => refEncR_yes (HE.out.below (b15.trans (b6.mono b15.size))) (HF.out.below (b15.trans (b6.mono b15.size))) HN.out HOE.out HOF.out HM.out)
      have XA := Lib.hid (fun (w7 : World) (b7 : Below w5.heap.size w5 w7) (d : Nat) (os : Array Obj) => checkR_yes (XE.out.below (b7.trans ((below_regrown w7 d os).mono b7.size))) (XF.out.below (b7.trans ((below_regrown w7 d os).mono b7.size))) (by omega) (by omega) HM.out)
      have XB := Lib.hid (fun (w7 : World) (b7 : Below w5.heap.size w5 w7) (d : Nat) (os : Array Obj) => refCheckR_yes ((HE.out.below (b15.trans (b7.mono b15.size))).below (below_regrown w7 d os)) ((HF.out.below (b15.trans (b7.mono b15.size))).below (below_regrown w7 d os)) (by omega) (by omega) HM.out)
      have XC := Lib.hid (fun (w7 : World) (b7 : Below w5.heap.size w5 w7) (d : Nat) (os : Array Obj) => same_any n (XE.out.below (b7.trans ((below_regrown w7 d os).mono b7.size))) (XF.out.below (b7.trans ((below_regrown w7 d os).mono b7.size))) ((HE.out.below (b15.trans (b7.mono b15.size))).below (below_regrown w7 d os)) ((HF.out.below (b15.trans (b7.mono b15.size))).below (below_regrown w7 d os)) (by omega) (by omega))
      generalize str (encR n es fs) = te at *
      have dte : (te.toList == te.toList) = true := by simp
      go_wp2_with fail
      refine X6.out.mono ?_
      rintro e w6 ⟨rfl, b6⟩
      have s6 := b6.size
      clear t0 t1 t2 t3 t4 t5 t6 t7
      obtain ⟨c0, c1, c2, c3, c4, c5, c6, c7⟩ := R5.out.below hRs5 b6
      have Z7 := Lib.hid (X7.out w6 b6)
      go_wp2_with fail
      refine Z7.out.mono ?_
      rintro e w7 ⟨rfl, b7⟩
      have b57 := b6.trans (b7.mono s6)
      clear c0 c1 c2 c3 c4 c5 c6 c7
      obtain ⟨c0, c1, c2, c3, c4, c5, c6, c7⟩ := R5.out.below hRs5 b57
      obtain ⟨t0, t1, t2, t3, t4, t5, t6, t7⟩ := T5.out.below hTs5 b57
      have y0 := (b57.cell (p := ⟨gE, es.length * 6, none⟩) hgEl).trans Y0.out
      have y1 := (b57.cell (p := ⟨gF, fs.length * 2 + 1, none⟩) hgFl).trans Y1.out
      have ZA := Lib.hid (XA.out w7 b57)
      have ZB := Lib.hid (XB.out w7 b57)
      have ZC := Lib.hid (XC.out w7 b57)
      have B7 := Lib.hid (B5.trans (b57.mono B5.size))
      go_upto_region 8 with fail
      have k0 := cell_regrown c0
      have k1 := cell_regrown c1
      have k2 := cell_regrown c2
      have k3 := cell_regrown c3
      have k4 := cell_regrown c4
      have k5 := cell_regrown c5
      have k6 := cell_regrown c6
      have k7 := cell_regrown c7
      have l0 := cell_regrown t0
      have l1 := cell_regrown t1
      have l2 := cell_regrown t2
      have l3 := cell_regrown t3
      have l4 := cell_regrown t4
      have l5 := cell_regrown t5
      have l6 := cell_regrown t6
      have l7 := cell_regrown t7
      have m0 := cell_regrown y0
      have m1 := cell_regrown y1
      refine wp_region_quiet_below (by kernel_rfl) (by kernel_rfl) ?_
      repeat (go_big_quiet_step ((first | (go_at_call 12; exact Calls.regrown_of (ZA.out _ _)) | (go_at_call 13; exact Calls.regrown_of (ZB.out _ _)) | (go_at_call 14; exact Calls.regrown_of (ZC.out _ _)) | (go_at_call 15; exact Calls.regrown_of (HW.out _)))))
      refine wpQuiet_nil ?_
      intro _ hw'
      obtain ⟨⟨dq, osq⟩, hw''⟩ := hw'
      subst hw''
      have hb8 := below_regrown w7 dq osq
      clear k0 k1 k2 k3 k4 k5 k6 k7 l0 l1 l2 l3 l4 l5 l6 l7 m0 m1
      generalize Sort.grow (redrawn w7 dq) osq = wq at *
      go_wp2
      go_ret
      exact ⟨rfl, B7.out.trans (hb8.mono B7.out.size)⟩

end Go.Proofs.Ytalilifegclelaa
