/- The walk of MailEncode. (Printed by wip/src/XC11J.py.) -/
import Derived.Test.YtnekpehgaojkaaaDoorC11I
import Derived.Test.YtnekpehgaojkaaaDoorC11G
import Derived.Deep.RegionHeld3
namespace Go.Proofs.YtnekpehgaojkaaaDoor
open Go.RowKit

theorem drew_owns {B n sz : Nat} {e : TypeId} {w : World} {v : Value} {xs : List Value} (h : w.ownsRow B e sz v n xs) : w.drew.ownsRow B e sz v n xs := h
theorem set9 (m : MNum) (ve v : Value) : (mailCells m ve).setIfInBounds 9 v = mailCells m v := by simp [mailCells]
/-- The entry behind the copy. -/
def sentE : Ent := ⟨-70, ⟨0, 0, 0, 0, 0⟩⟩
theorem keep7 {w w' : World} {g t : Nat} {a b : Obj} {p q r : Addr} {x y z : Value} (h : w.heap[g]? = some a ∧ w.heap[t]? = some b ∧ w.cell? p = some x ∧ w.cell? q = some y ∧ w.cell? r = some z) (hb : Below w.heap.size w w') :
    w'.heap[g]? = some a ∧ w'.heap[t]? = some b ∧ w'.cell? p = some x ∧ w'.cell? q = some y ∧ w'.cell? r = some z :=
  ⟨(hb.block g (Array.getElem?_eq_some_iff.1 h.1).1).trans h.1, (hb.block t (Array.getElem?_eq_some_iff.1 h.2.1).1).trans h.2.1, (hb.cell (World.block_lt_of_cell? w p h.2.2.1)).trans h.2.2.1, (hb.cell (World.block_lt_of_cell? w q h.2.2.2.1)).trans h.2.2.2.1, (hb.cell (World.block_lt_of_cell? w r h.2.2.2.2)).trans h.2.2.2.2⟩

set_option maxRecDepth 100000 in
set_option maxHeartbeats 16000000 in
theorem mailEncode_walk (m : MNum) (es : List Ent) (v : Value) (n : Int) (_hn : (Lit.int .i64 n).wf = true) (w : World) (hK : KindsAt w) (hM : MsgIn w v m es) :
    Calls Tryd.prog 3 #[v, .int .i64 n] w fun e w' => e = .returned (.bool true) ∧ Below w.heap.size w w' := by
  obtain ⟨ve, rfl, hm, he⟩ := hM
  obtain ⟨ae, ce, rfl, _⟩ := he.1
  obtain ⟨w1, e1, b1, s1, g1⟩ := boxed w (mailCells m (.slice ae es.length ce)) 28
  have E1 := Lib.hid e1
  have G1 := Lib.hid g1
  have hp := hK.pos
  have HKK := Lib.hid (fun (wx : World) (bx : Below w.heap.size w wx) => hK.below bx hp)
  have HW := Lib.hid (fun (wx : World) (bx : Below w.heap.size w wx) => works_any (hK.below bx hp))
  have c9 := msg_cell g1 9 (.slice ae es.length ce) rfl
  by_cases hl : 500 < es.length
  · clear he hK g1 e1
    go_enter Tryd.func3, Tryd.ntmps3
    go_upto_region 1 with fail
    (try rw [E1.out])
    go_wp2
    go_ret
    exact ⟨rfl, b1⟩
  · have d0 : decide ((500 : Int) < (es.length : Int)) = false := by rw [decide_eq_false_iff_not]; omega
    have hz1 : es.length ≤ 500 := by omega
    have HN := Lib.hid hm
    have HOE := Lib.hid he.2.2
    have HE := Lib.hid (he.1.below b1)
    have HLE := Lib.hid (fun (h : ae = none) => (show es.length = 0 ∧ ce = 0 by have := (he.2.1 ae es.length ce rfl); have := this.2.2 h; omega))
    obtain ⟨ZE, hZE⟩ := make_ents es.length (by omega)
    have mkE := fun w => (hZE w).1
    have OE := Lib.hid (fun w => (hZE w).2)
    obtain ⟨i0, hi, hy0, hy1, hy2⟩ := info_parts info_ent
    have HI := Lib.hid (And.intro hi (And.intro hy0 (And.intro hy1 hy2)))
    have hw1 : IntKind.i64.wrap ((es.length : Int) + 1) = (es.length : Int) + 1 := IntWalk.i64_in _ (by omega)
    obtain ⟨w3, e3, b3, s3, h3⟩ := fresh_msg w1 (mailCells m (.slice ae es.length ce)) 28
    have E3 := Lib.hid e3
    have n3 := World.alloc_heap_new w1 (.cells #[.int .i64 0, .int .i64 0, .int .i64 0, .int .i64 0, .int .i64 0, .int .i64 0, .int .i64 0, .int .i64 0, .int .i64 0, .slice none 0 0, .int .i64 0, .int .i64 0, .int .i64 0, .int .i64 0, .int .i64 0, .int .i64 0, .int .i64 0, .int .i64 0] 28)
    have hr := msg_range g1
    have G3 := Lib.hid ((b3.block w.heap.size (by omega)).trans g1)
    have H3 := Lib.hid h3
    have HE3 := Lib.hid (HE.out.below b3)
    have B3 := b1.trans (b3.mono b1.size)
    have hTs : w1.heap.size < w3.heap.size := by omega
    have hRT : w.heap.size ≠ w1.heap.size := by omega
    have hww : w.heap.size < w1.heap.size := by omega
    clear he hm hK g1 e1 e3 h3 hi hy0 hy1 hy2 hZE s3 s1
    go_enter Tryd.func3, Tryd.ntmps3
    go_upto_region 1 with fail
    (try rw [E1.out])
    go_upto_region 3 with fail
    clear c9 d0
    go_upto_region 4 with (first | (refine wpList_load_mid rfl _ _ rfl _ _ rfl _ _ hr Tryd.underlying28 rfl (by kernel_rfl) ?_) | (refine wpList_store_row rfl _ _ (.tmp 14) rfl w1.heap.size (mailCells m (.slice ae es.length ce)) rfl rfl _ _ n3 (by kernel_rfl) rfl (msg_one _ _ _ _) ?_; rw [E3.out]))
    clear hr n3
    (try simp only [Act.put])
    go_cut [] (fun wx => ∃ g cap, wx.heap[w1.heap.size]? = some (.cells (mailCells m (.slice (some ⟨g, 0, none⟩) es.length cap)) 28 (0, 0)) ∧ wx.ownsRow w3.heap.size 30 6 (.slice (some ⟨g, 0, none⟩) (es.length + 1) cap) (es.length + 1) (entVals es ++ #[.int .i64 (-70), .int .i64 0, .int .i64 0, .int .i64 0, .int .i64 0, .int .i64 0].toList) ∧ Wrote w1.heap.size w1.heap.size w3 wx)
    case first =>
      have c9 := msg_cell G3.out 9 (.slice ae es.length ce) rfl
      have t9 := msg_cell H3.out 9 (.slice ae es.length ce) rfl
      have ff := thawed H3.out 9
      have hRs : w.heap.size < w3.heap.size := by omega
      obtain ⟨wA, eA, OA, bA⟩ : ∃ wA, (w3.alloc (.cells ZE 30)).drew = wA ∧ wA.ownsRow w3.heap.size 30 6 (.slice (some ⟨w3.heap.size, 0, none⟩) 0 (es.length + 1)) 0 [] ∧ Below w3.heap.size w3 wA := ⟨_, rfl, drew_owns (OE.out w3), ((Below.refl _ _).alloc (Nat.le_refl _) _).drew⟩
      obtain ⟨wB, eB, OB, bB, cB⟩ : ∃ wA, ((w3.alloc (.cells ZE 30)).alloc (.cells #[.int .i64 (-70), .int .i64 0, .int .i64 0, .int .i64 0, .int .i64 0, .int .i64 0] 30)).drew = wA ∧ wA.ownsRow w3.heap.size 30 6 (.slice (some ⟨w3.heap.size, 0, none⟩) 0 (es.length + 1)) 0 [] ∧ Below w3.heap.size w3 wA ∧ ∀ j u, #[.int .i64 (-70), .int .i64 0, .int .i64 0, .int .i64 0, .int .i64 0, .int .i64 0].toList[j]? = some u → wA.cell? ((⟨w3.heap.size + 1, 0, none⟩ : Addr).add j) = some u :=
        ⟨_, rfl, drew_owns ((OE.out w3).alloc _), (((Below.refl _ _).alloc (Nat.le_refl _) _).alloc (by simp) _).drew, by have := row_at (w3.alloc (.cells ZE 30)) #[.int .i64 (-70), .int .i64 0, .int .i64 0, .int .i64 0, .int .i64 0, .int .i64 0].toList 30; rw [World.size_alloc] at this; exact this⟩
      obtain ⟨wC, eC, OC, bC, cC⟩ : ∃ wA, ((w3.alloc (.cells #[.int .i64 (-70), .int .i64 0, .int .i64 0, .int .i64 0, .int .i64 0, .int .i64 0] 30)).alloc (.cells ZE 30)).drew = wA ∧ wA.ownsRow w3.heap.size 30 6 (.slice (some ⟨w3.heap.size + 1, 0, none⟩) 0 (es.length + 1)) 0 [] ∧ Below w3.heap.size w3 wA ∧ ∀ j u, #[.int .i64 (-70), .int .i64 0, .int .i64 0, .int .i64 0, .int .i64 0, .int .i64 0].toList[j]? = some u → wA.cell? ((⟨w3.heap.size, 0, none⟩ : Addr).add j) = some u := by
        have b := ((Below.refl w3.heap.size w3).alloc (Nat.le_refl _) (.cells #[.int .i64 (-70), .int .i64 0, .int .i64 0, .int .i64 0, .int .i64 0, .int .i64 0] 30))
        have o := OE.out (w3.alloc (.cells #[.int .i64 (-70), .int .i64 0, .int .i64 0, .int .i64 0, .int .i64 0, .int .i64 0] 30))
        rw [World.size_alloc] at o
        refine ⟨_, rfl, drew_owns (owns_le o (by omega)), (b.alloc (by simp) _).drew, fun j u hj => ?_⟩
        have h := row_at w3 #[.int .i64 (-70), .int .i64 0, .int .i64 0, .int .i64 0, .int .i64 0, .int .i64 0].toList 30 j u hj
        rw [add_off] at h ⊢
        exact (((Below.refl _ _).alloc (Nat.le_refl _) _ : Below (w3.alloc (.cells #[.int .i64 (-70), .int .i64 0, .int .i64 0, .int .i64 0, .int .i64 0, .int .i64 0] 30)).heap.size (w3.alloc (.cells #[.int .i64 (-70), .int .i64 0, .int .i64 0, .int .i64 0, .int .i64 0, .int .i64 0] 30)) _).cell (p := ⟨w3.heap.size, 0 + j, none⟩) (by simp)).trans h
      have EA := Lib.hid eA
      have EB := Lib.hid eB
      have EC := Lib.hid eC
      have sA : w3.heap.size < wA.heap.size := by rw [← eA]; show w3.heap.size < (w3.alloc _).heap.size; simp
      have sB : w3.heap.size + 1 < wB.heap.size := by rw [← eB]; show w3.heap.size + 1 < ((w3.alloc _).alloc _).heap.size; simp
      have sC : w3.heap.size < wC.heap.size := by rw [← eC]; show w3.heap.size < ((w3.alloc _).alloc _).heap.size; simp; omega
      have hcA := Lib.hid (ents_hc (HE3.out.below bA))
      have hcB := Lib.hid (ents_hc (HE3.out.below bB))
      have hcC := Lib.hid (ents_hc (HE3.out.below bC))
      have HOA := Lib.hid OA
      have HOB := Lib.hid OB
      have HOC := Lib.hid OC
      have HCB := Lib.hid cB
      have HCC := Lib.hid cC
      have hQ : ∀ wx, Below w3.heap.size w3 wx → wx.cell? ⟨w.heap.size, 9, none⟩ = some (.slice ae es.length ce) := fun wx hb => (hb.cell (p := ⟨w.heap.size, 9, none⟩) hRs).trans c9
      have HQ := Lib.hid hQ
      clear eA eB eC OA OB OC cB cC hQ
      go_region_held3 (fun w' => w'.cell? ⟨w.heap.size, 9, none⟩ = some (.slice ae es.length ce))
        (first | exact c9 | exact q3 | exact q2 | exact q1 | (rw [EA.out]; exact HQ.out _ bA) | (rw [EB.out]; exact HQ.out _ bB) | (rw [EC.out]; exact HQ.out _ bC) | go_keep)
        (first
          | (have qq := q1; rw [E1b.out]; refine step_copy (by rfl) (.tmp 22) (.tmp 24) 22 (by rfl) w3.heap.size 30 i0 (.agg (entCells noEnt)) 6 48 Tryd.underlying22 HI.out.1 HI.out.2.1 HI.out.2.2.1 HI.out.2.2.2 rfl (by decide) _ (es.length) (entVals es) (by rfl) O1b (some _) 1 1 (by rfl) (fun h => by cases h) #[.int .i64 (-70), .int .i64 0, .int .i64 0, .int .i64 0, .int .i64 0, .int .i64 0].toList rfl (fun ad h => by cases h; exact C1b) (by simp [Value.oneCell']) (by unfold maxLen; omega) (by omega) (by omega) ?_; intro v2 wv2 hown2 hgr2; obtain ⟨g2, cap2, rfl, k1, k2, k3⟩ := own_form hown2; have bv2 := (b1b (by omega)).grown hgr2 (by omega) (fun k hk => (O1b.lt k hk).1); have q2 := HQ.out _ bv2; have u6 := (bv2.cell (p := ⟨w1.heap.size, 9, none⟩) hTs).trans t9; have uf := thawed ((bv2.block w1.heap.size hTs).trans H3.out) 9; have q3 := set_keeps (T := w1.heap.size) (k := 9) (v := .slice (some ⟨g2, 0, none⟩) es.length cap2) q2 hRT; have HO2 := Lib.hid hown2; clear hown2 hgr2)
          | (have qq := hBc; refine step_copy (by rfl) (.tmp 22) (.tmp 24) 22 (by rfl) w3.heap.size 30 i0 (.agg (entCells noEnt)) 6 48 Tryd.underlying22 HI.out.1 HI.out.2.1 HI.out.2.2.1 HI.out.2.2.2 rfl (by decide) _ (es.length) (entVals es) (by rfl) hown1 (some _) 1 1 (by rfl) (fun h => by cases h) #[.int .i64 (-70), .int .i64 0, .int .i64 0, .int .i64 0, .int .i64 0, .int .i64 0].toList rfl (fun ad h => by cases h; exact hBc) (by simp [Value.oneCell']) (by unfold maxLen; omega) (by omega) (by omega) ?_; intro v2 wv2 hown2 hgr2; obtain ⟨g2, cap2, rfl, k1, k2, k3⟩ := own_form hown2; have bv2 := bv1.grown hgr2 (by omega) (fun k hk => (hown1.lt k hk).1); have q2 := HQ.out _ bv2; have u6 := (bv2.cell (p := ⟨w1.heap.size, 9, none⟩) hTs).trans t9; have uf := thawed ((bv2.block w1.heap.size hTs).trans H3.out) 9; have q3 := set_keeps (T := w1.heap.size) (k := 9) (v := .slice (some ⟨g2, 0, none⟩) es.length cap2) q2 hRT; have HO2 := Lib.hid hown2; clear hown2 hgr2)
          | (rw [EB.out]; refine step_copy (by rfl) (.tmp 19) (.tmp 21) 22 (by rfl) w3.heap.size 30 i0 (.agg (entCells noEnt)) 6 48 Tryd.underlying22 HI.out.1 HI.out.2.1 HI.out.2.2.1 HI.out.2.2.2 rfl (by decide) _ 0 [] (by rfl) HOB.out ae es.length ce (by rfl) HLE.out (entVals es) (by rw [entVals_len]) hcB.out (entVals_one es) (by unfold maxLen; omega) (by omega) (by omega) ?_; intro v1 wv1 hown1' hgr1; have hown1 : wv1.ownsRow w3.heap.size 30 6 v1 es.length (entVals es) := (by simpa using hown1'); have bv1 := bB.grown hgr1 (by omega) (fun k hk => (HOB.out.lt k hk).1); have q1 := HQ.out _ bv1; have s1y := bv1.size; have hBc := grown_row hgr1 sB (by omega) HCB.out HOB.out; clear hown1')
          | (rw [EC.out]; refine step_copy (by rfl) (.tmp 19) (.tmp 21) 22 (by rfl) w3.heap.size 30 i0 (.agg (entCells noEnt)) 6 48 Tryd.underlying22 HI.out.1 HI.out.2.1 HI.out.2.2.1 HI.out.2.2.2 rfl (by decide) _ 0 [] (by rfl) HOC.out ae es.length ce (by rfl) HLE.out (entVals es) (by rw [entVals_len]) hcC.out (entVals_one es) (by unfold maxLen; omega) (by omega) (by omega) ?_; intro v1 wv1 hown1' hgr1; have hown1 : wv1.ownsRow w3.heap.size 30 6 v1 es.length (entVals es) := (by simpa using hown1'); have bv1 := bC.grown hgr1 (by omega) (fun k hk => (HOC.out.lt k hk).1); have q1 := HQ.out _ bv1; have s1y := bv1.size; have hBc := grown_row hgr1 sC (by omega) HCC.out HOC.out; clear hown1')
          | (rw [EA.out]; refine step_copy (by rfl) (.tmp 19) (.tmp 21) 22 (by rfl) w3.heap.size 30 i0 (.agg (entCells noEnt)) 6 48 Tryd.underlying22 HI.out.1 HI.out.2.1 HI.out.2.2.1 HI.out.2.2.2 rfl (by decide) _ 0 [] (by rfl) HOA.out ae es.length ce (by rfl) HLE.out (entVals es) (by rw [entVals_len]) hcA.out (entVals_one es) (by unfold maxLen; omega) (by omega) (by omega) ?_; intro v1 wv1 hown1' hgr1; have hown1 : wv1.ownsRow w3.heap.size 30 6 v1 es.length (entVals es) := (by simpa using hown1'); have bv1 := bA.grown hgr1 (by omega) (fun k hk => (HOA.out.lt k hk).1); have q1 := HQ.out _ bv1; obtain ⟨wv1b, e1b, O1b, C1b, b1b, s1b⟩ := copy_next (t := 30) hown1 bv1 #[.int .i64 (-70), .int .i64 0, .int .i64 0, .int .i64 0, .int .i64 0, .int .i64 0].toList; have s1x := bv1.size; have E1b := Lib.hid e1b; clear e1b hown1'))
      all_goals
        go_wp2_with fail
        go_meet
        obtain ⟨z1, z2, z3⟩ := copy_done bv2 hTs H3.out HO2.out 9 (.slice (some ⟨g2, 0, none⟩) es.length cap2)
        rw [set9] at z1
        exact ⟨g2, cap2, z1, z2, z3⟩
    case rest =>
      obtain ⟨gE, capE, hrow, howE, hW4⟩ := hcut
      obtain ⟨w5, hw5⟩ : ∃ w5, wc = w5 := ⟨_, rfl⟩
      rw [hw5] at hrow howE hW4
      rw [hw5]
      clear hw5
      have b15 : Below w1.heap.size w1 w5 := b3.trans (hW4.toBelow (B := w1.heap.size) (by omega) (Nat.le_refl _) (Nat.le_refl _))
      have hs5 := hW4.below.size
      have hcE := own_form howE
      obtain ⟨_, _, hv1, _, hcE1, hcE2⟩ := hcE
      cases hv1
      have y0 := owns_behind (j := 0) howE (entVals_len es) rfl
      rw [Nat.add_zero] at y0
      have XE := Lib.hid (ents_owned (B' := w5.heap.size) (owns_prefix howE (entVals_len es) rfl))
      have G5 := Lib.hid ((b15.block w.heap.size (by omega)).trans G1.out)
      have T5 := Lib.hid hrow
      have Y0 := Lib.hid y0
      have B5 := b1.trans (b15.mono b1.size)
      have hSx := Lib.hid (And.intro G5.out (And.intro T5.out (And.intro (msg_cell T5.out 9 (.slice (some ⟨gE, 0, none⟩) es.length capE) rfl) (And.intro (msg_cell G5.out 9 (.slice ae es.length ce) rfl) y0))))
      have X6 := Lib.hid (encodeM_any m n (HKK.out _ B5) XE.out (by omega) HN.out HOE.out)
      have X7 := Lib.hid (fun (wx : World) (bx : Below w5.heap.size w5 wx) => refEncodeM_any m n (HE.out.below (b15.trans (bx.mono b15.size))) (by omega) HN.out HOE.out)
      have XA := Lib.hid (fun (wx : World) (bx : Below w5.heap.size w5 wx) => checkM_any m n (HKK.out _ (B5.trans (bx.mono B5.size))) (XE.out.below bx) (by omega))
      have XB := Lib.hid (fun (wx : World) (bx : Below w5.heap.size w5 wx) => refCheckM_any m n (HE.out.below (b15.trans (bx.mono b15.size))) (by omega))
      have XC := Lib.hid (fun (wx : World) (bx : Below w5.heap.size w5 wx) => sameM m (XE.out.below bx) (HE.out.below (b15.trans (bx.mono b15.size))) (by omega))
      obtain ⟨te, hte⟩ : ∃ te, str (if mayM m es n = true then encM m es else []) = te := ⟨_, rfl⟩
      obtain ⟨cd, hcd⟩ : ∃ cd, errno (mayM m es n) 2 = cd := ⟨_, rfl⟩
      rw [hte, hcd] at X6
      simp only [hte, hcd] at X7
      simp only [hcd] at XA
      simp only [hcd] at XB
      have dte : (te.toList == te.toList) = true := by simp
      have hr5 := msg_range T5.out
      clear hrow howE y0 mkE hte hcd hW4
      go_wp2_with (first | (refine load_midG (by rfl) _ _ rfl _ _ rfl _ _ hr5 Tryd.underlying28 rfl (by kernel_rfl) ?_))
      refine X6.out.mono ?_
      rintro e w6 ⟨rfl, b6⟩
      have s6 := b6.size
      clear hr5
      have hr6 := msg_range ((b6.block w.heap.size (Array.getElem?_eq_some_iff.1 G5.out).1).trans G5.out)
      go_wp2_with (first | (refine load_midG (by rfl) _ _ rfl _ _ rfl _ _ hr6 Tryd.underlying28 rfl (by kernel_rfl) ?_))
      refine (X7.out w6 b6).mono ?_
      rintro e w7 ⟨rfl, b7⟩
      clear hr6
      have b57 := b6.trans (b7.mono s6)
      have hS7 := keep7 hSx.out b57
      go_upto_region 7 with fail
      have hz0 : (0 : Int) ≤ (es.length : Int) + 1 := by omega
      have hi0 : (0 : Int) ≤ (es.length : Int) := by omega
      have hi1 : (es.length : Int) < (es.length : Int) + 1 := by omega
      have b57d : Below w5.heap.size w5 w7.drew := b57.drew
      refine wp_region_held_drew (S := fun w' => w'.heap[w.heap.size]? = some (.cells (mailCells m (.slice ae es.length ce)) 28 (0, 0)) ∧ w'.heap[w1.heap.size]? = some (.cells (mailCells m (.slice (some ⟨gE, 0, none⟩) es.length capE)) 28 (0, 0)) ∧ w'.cell? ⟨w1.heap.size, 9, none⟩ = some (.slice (some ⟨gE, 0, none⟩) es.length capE) ∧ w'.cell? ⟨w.heap.size, 9, none⟩ = some (.slice ae es.length ce) ∧ w'.cell? ⟨gE, es.length * 6, none⟩ = some (.int .i64 (-70))) (by kernel_rfl) hS7 (fun hHeld => ?_)
      refine' wpAnyH_take (i := 0) (oi := { dst := some 43, op := Op.move (Operand.tmp 6), type := 9, pos := "law.go:30", after := #[], guard := none }) rfl (by kernel_rfl) (by kernel_rfl) (by kernel_rfl) (fun _ _ _ h => h) (Or.inl ⟨by rfl, ?_⟩) (by assumption) ?_
      rotate_left
      · (intro w hSw; (try dsimp only at hSw); go_simp; try with_reducible rfl)
      try go_frame
      refine' wpAnyH_take (i := 1) (oi := { dst := some 44, op := Op.move (Operand.tmp 8), type := 9, pos := "law.go:30", after := #[], guard := none }) rfl (by kernel_rfl) (by kernel_rfl) (by kernel_rfl) (fun _ _ _ h => h) (Or.inl ⟨by rfl, ?_⟩) (by assumption) ?_
      rotate_left
      · (intro w hSw; (try dsimp only at hSw); go_simp; try with_reducible rfl)
      try go_frame
      refine' wpAnyH_take (i := 2) (oi := { dst := some 45, op := Op.binOp BinOp.eql 9 (Operand.tmp 43) (Operand.tmp 44) 9, type := 4, pos := "law.go:30", after := #[{ on := 0, ground := Ground.data }, { on := 1, ground := Ground.data }], guard := none }) rfl (by kernel_rfl) (by kernel_rfl) (by kernel_rfl) (fun _ _ _ h => h) (Or.inl ⟨by rfl, ?_⟩) (by assumption) ?_
      rotate_left
      · (intro w hSw; (try dsimp only at hSw); go_simp; try with_reducible rfl)
      try go_frame
      refine' wpAnyH_take (i := 3) (oi := { dst := some 46, op := Op.move (Operand.tmp 45), type := 4, pos := "law.go:30", after := #[{ on := 2, ground := Ground.data }], guard := none }) rfl (by kernel_rfl) (by kernel_rfl) (by kernel_rfl) (fun _ _ _ h => h) (Or.inl ⟨by rfl, ?_⟩) (by assumption) ?_
      rotate_left
      · (intro w hSw; (try dsimp only at hSw); go_simp; try with_reducible rfl)
      try go_frame
      refine' wpAnyH_take (i := 4) (oi := { dst := some 47, op := Op.move (Operand.tmp 7), type := 31, pos := "law.go:30", after := #[{ on := 3, ground := Ground.guard }], guard := some (3, true) }) rfl (by kernel_rfl) (by kernel_rfl) (by kernel_rfl) (fun _ _ _ h => h) (Or.inl ⟨by rfl, ?_⟩) (by assumption) ?_
      rotate_left
      · (intro w hSw; (try dsimp only at hSw); go_simp; try with_reducible rfl)
      try go_frame
      refine' wpAnyH_take (i := 5) (oi := { dst := some 48, op := Op.move (Operand.tmp 9), type := 31, pos := "law.go:30", after := #[{ on := 3, ground := Ground.guard }], guard := some (3, true) }) rfl (by kernel_rfl) (by kernel_rfl) (by kernel_rfl) (fun _ _ _ h => h) (Or.inl ⟨by rfl, ?_⟩) (by assumption) ?_
      rotate_left
      · (intro w hSw; (try dsimp only at hSw); go_simp; try with_reducible rfl)
      try go_frame
      refine' wpAnyH_take (i := 6) (oi := { dst := some 49, op := Op.binOp BinOp.eql 31 (Operand.tmp 47) (Operand.tmp 48) 31, type := 4, pos := "law.go:30", after := #[{ on := 4, ground := Ground.data }, { on := 5, ground := Ground.data }, { on := 3, ground := Ground.guard }], guard := some (3, true) }) rfl (by kernel_rfl) (by kernel_rfl) (by kernel_rfl) (fun _ _ _ h => h) (Or.inl ⟨by rfl, ?_⟩) (by assumption) ?_
      rotate_left
      · (intro w hSw; (try dsimp only at hSw); go_simp; try with_reducible rfl)
      try go_frame
      refine' wpAnyH_take (i := 7) (oi := { dst := some 50, op := Op.pick (Operand.tmp 46) (Operand.tmp 49) (Operand.const (Value.bool false)), type := 4, pos := "law.go:30", after := #[{ on := 3, ground := Ground.data }, { on := 6, ground := Ground.data }], guard := none }) rfl (by kernel_rfl) (by kernel_rfl) (by kernel_rfl) (fun _ _ _ h => h) (Or.inl ⟨by rfl, ?_⟩) (by assumption) ?_
      rotate_left
      · (intro w hSw; (try dsimp only at hSw); go_simp; try with_reducible rfl)
      try go_frame
      refine' wpAnyH_take (i := 8) (oi := { dst := some 51, op := Op.move (Operand.tmp 50), type := 4, pos := "law.go:30", after := #[{ on := 7, ground := Ground.data }, { on := 3, ground := Ground.chain }], guard := none }) rfl (by kernel_rfl) (by kernel_rfl) (by kernel_rfl) (fun _ _ _ h => h) (Or.inl ⟨by rfl, ?_⟩) (by assumption) ?_
      rotate_left
      · (intro w hSw; (try dsimp only at hSw); go_simp; try with_reducible rfl)
      try go_frame
      refine' wpAnyH_take (i := 9) (oi := { dst := some 52, op := Op.load 28 (Operand.tmp 5), type := 28, pos := "law.go:30", after := #[{ on := 8, ground := Ground.guard }], guard := some (8, true) }) (v := _) rfl (by kernel_rfl) (by kernel_rfl) (by kernel_rfl) (fun _ _ _ h => h) (yieldsIf_load_mid (by rfl) _ _ rfl _ _ rfl _ _ (fun _ h => msg_range h.2.1) Tryd.underlying28 rfl (by kernel_rfl)) (by assumption) ?_
      try simp only [Act.put, List.setIfInBounds_toArray, List.set_cons_zero, List.set_cons_succ, Array.toArray_toList]
      refine' wpAnyH_take (i := 10) (oi := { dst := some 53, op := Op.move (Operand.tmp 1), type := 3, pos := "law.go:30", after := #[{ on := 8, ground := Ground.guard }], guard := some (8, true) }) rfl (by kernel_rfl) (by kernel_rfl) (by kernel_rfl) (fun _ _ _ h => h) (Or.inl ⟨by rfl, ?_⟩) (by assumption) ?_
      rotate_left
      · (intro w hSw; (try dsimp only at hSw); go_simp; try with_reducible rfl)
      try go_frame
      refine' wpAnyH_take (i := 12) (oi := { dst := some 55, op := Op.load 28 (Operand.tmp 2), type := 28, pos := "law.go:30", after := #[{ on := 8, ground := Ground.guard }], guard := some (8, true) }) (v := _) rfl (by kernel_rfl) (by kernel_rfl) (by kernel_rfl) (fun _ _ _ h => h) (yieldsIf_load_mid (by rfl) _ _ rfl _ _ rfl _ _ (fun _ h => msg_range h.1) Tryd.underlying28 rfl (by kernel_rfl)) (by assumption) ?_
      try simp only [Act.put, List.setIfInBounds_toArray, List.set_cons_zero, List.set_cons_succ, Array.toArray_toList]
      refine' wpAnyH_take (i := 13) (oi := { dst := some 56, op := Op.move (Operand.tmp 1), type := 3, pos := "law.go:30", after := #[{ on := 8, ground := Ground.guard }], guard := some (8, true) }) rfl (by kernel_rfl) (by kernel_rfl) (by kernel_rfl) (fun _ _ _ h => h) (Or.inl ⟨by rfl, ?_⟩) (by assumption) ?_
      rotate_left
      · (intro w hSw; (try dsimp only at hSw); go_simp; try with_reducible rfl)
      try go_frame
      refine wpAnyH_ready (rs := [11]) (by kernel_rfl) (by simp) (AllReadyH.cons (o := { dst := some 54, op := Op.call { callee := Callee.value (Operand.func 11), args := #[Operand.tmp 52, Operand.tmp 53], argTypes := #[28, 3] }, type := 31, pos := "law.go:30", after := #[{ on := 9, ground := Ground.data }, { on := 10, ground := Ground.data }, { on := 8, ground := Ground.chain }, { on := 8, ground := Ground.guard }], guard := some (8, true) }) rfl (fun K hK => ?_) AllReadyH.nil)
      go_simp
      refine (XA.out _ b57d).mono ?_; rintro e wa ⟨rfl, dwa⟩; have ba := b57d.trans (dwa.mono b57d.size); have hwa := keep7 hHeld dwa
      try go_wp2_with fail
      refine hK.out _ _ (hwa) (fun hHeld => ?_)
      clear hK K
      try go_frame
      refine wpAnyH_ready (rs := [14]) (by kernel_rfl) (by simp) (AllReadyH.cons (o := { dst := some 57, op := Op.call { callee := Callee.value (Operand.func 12), args := #[Operand.tmp 55, Operand.tmp 56], argTypes := #[28, 3] }, type := 31, pos := "law.go:30", after := #[{ on := 12, ground := Ground.data }, { on := 13, ground := Ground.data }, { on := 11, ground := Ground.chain }, { on := 8, ground := Ground.guard }], guard := some (8, true) }) rfl (fun K hK => ?_) AllReadyH.nil)
      go_simp
      refine (XB.out _ ba).mono ?_; rintro e wb ⟨rfl, dwb⟩; have bb := ba.trans (dwb.mono ba.size); have hwb := keep7 hHeld dwb
      try go_wp2_with fail
      refine hK.out _ _ (hwb) (fun hHeld => ?_)
      clear hK K
      try go_frame
      refine' wpAnyH_take (i := 15) (oi := { dst := some 58, op := Op.binOp BinOp.eql 31 (Operand.tmp 54) (Operand.tmp 57) 31, type := 4, pos := "law.go:30", after := #[{ on := 11, ground := Ground.data }, { on := 14, ground := Ground.data }, { on := 8, ground := Ground.guard }], guard := some (8, true) }) rfl (by kernel_rfl) (by kernel_rfl) (by kernel_rfl) (fun _ _ _ h => h) (Or.inl ⟨by rfl, ?_⟩) (by assumption) ?_
      rotate_left
      · (intro w hSw; (try dsimp only at hSw); go_simp; try with_reducible rfl)
      try go_frame
      refine' wpAnyH_take (i := 16) (oi := { dst := some 59, op := Op.pick (Operand.tmp 51) (Operand.tmp 58) (Operand.const (Value.bool false)), type := 4, pos := "law.go:30", after := #[{ on := 8, ground := Ground.data }, { on := 15, ground := Ground.data }], guard := none }) rfl (by kernel_rfl) (by kernel_rfl) (by kernel_rfl) (fun _ _ _ h => h) (Or.inl ⟨by rfl, ?_⟩) (by assumption) ?_
      rotate_left
      · (intro w hSw; (try dsimp only at hSw); go_simp; try with_reducible rfl)
      try go_frame
      refine' wpAnyH_take (i := 17) (oi := { dst := some 60, op := Op.move (Operand.tmp 59), type := 4, pos := "law.go:30", after := #[{ on := 16, ground := Ground.data }, { on := 14, ground := Ground.chain }], guard := none }) rfl (by kernel_rfl) (by kernel_rfl) (by kernel_rfl) (fun _ _ _ h => h) (Or.inl ⟨by rfl, ?_⟩) (by assumption) ?_
      rotate_left
      · (intro w hSw; (try dsimp only at hSw); go_simp; try with_reducible rfl)
      try go_frame
      refine' wpAnyH_take (i := 18) (oi := { dst := some 61, op := Op.load 28 (Operand.tmp 5), type := 28, pos := "law.go:30", after := #[{ on := 17, ground := Ground.guard }], guard := some (17, true) }) (v := _) rfl (by kernel_rfl) (by kernel_rfl) (by kernel_rfl) (fun _ _ _ h => h) (yieldsIf_load_mid (by rfl) _ _ rfl _ _ rfl _ _ (fun _ h => msg_range h.2.1) Tryd.underlying28 rfl (by kernel_rfl)) (by assumption) ?_
      try simp only [Act.put, List.setIfInBounds_toArray, List.set_cons_zero, List.set_cons_succ, Array.toArray_toList]
      refine' wpAnyH_take (i := 19) (oi := { dst := some 62, op := Op.load 28 (Operand.tmp 2), type := 28, pos := "law.go:30", after := #[{ on := 17, ground := Ground.guard }], guard := some (17, true) }) (v := _) rfl (by kernel_rfl) (by kernel_rfl) (by kernel_rfl) (fun _ _ _ h => h) (yieldsIf_load_mid (by rfl) _ _ rfl _ _ rfl _ _ (fun _ h => msg_range h.1) Tryd.underlying28 rfl (by kernel_rfl)) (by assumption) ?_
      try simp only [Act.put, List.setIfInBounds_toArray, List.set_cons_zero, List.set_cons_succ, Array.toArray_toList]
      refine wpAnyH_ready (rs := [20]) (by kernel_rfl) (by simp) (AllReadyH.cons (o := { dst := some 63, op := Op.call { callee := Callee.value (Operand.func 13), args := #[Operand.tmp 61, Operand.tmp 62], argTypes := #[28, 28] }, type := 4, pos := "law.go:30", after := #[{ on := 18, ground := Ground.data }, { on := 19, ground := Ground.data }, { on := 17, ground := Ground.chain }, { on := 17, ground := Ground.guard }], guard := some (17, true) }) rfl (fun K hK => ?_) AllReadyH.nil)
      go_simp
      refine (XC.out _ bb).mono ?_; rintro e wq ⟨rfl, dwq⟩; have bq := bb.trans (dwq.mono bb.size); have hwq := keep7 hHeld dwq
      try go_wp2_with fail
      refine hK.out _ _ (hwq) (fun hHeld => ?_)
      clear hK K
      try go_frame
      refine' wpAnyH_take (i := 21) (oi := { dst := some 64, op := Op.pick (Operand.tmp 60) (Operand.tmp 63) (Operand.const (Value.bool false)), type := 4, pos := "law.go:30", after := #[{ on := 17, ground := Ground.data }, { on := 20, ground := Ground.data }], guard := none }) rfl (by kernel_rfl) (by kernel_rfl) (by kernel_rfl) (fun _ _ _ h => h) (Or.inl ⟨by rfl, ?_⟩) (by assumption) ?_
      rotate_left
      · (intro w hSw; (try dsimp only at hSw); go_simp; try with_reducible rfl)
      try go_frame
      refine' wpAnyH_take (i := 22) (oi := { dst := some 65, op := Op.move (Operand.tmp 64), type := 4, pos := "law.go:30", after := #[{ on := 21, ground := Ground.data }, { on := 20, ground := Ground.chain }], guard := none }) rfl (by kernel_rfl) (by kernel_rfl) (by kernel_rfl) (fun _ _ _ h => h) (Or.inl ⟨by rfl, ?_⟩) (by assumption) ?_
      rotate_left
      · (intro w hSw; (try dsimp only at hSw); go_simp; try with_reducible rfl)
      try go_frame
      refine' wpAnyH_take (i := 23) (oi := { dst := some 66, op := Op.fieldAddr 28 (Operand.tmp 5) 9, type := 0, pos := "law.go:30", after := #[{ on := 22, ground := Ground.guard }], guard := some (22, true) }) rfl (by kernel_rfl) (by kernel_rfl) (by kernel_rfl) (fun _ _ _ h => h) (Or.inl ⟨by rfl, ?_⟩) (by assumption) ?_
      rotate_left
      · (intro w hSw; (try dsimp only at hSw); go_simp; try with_reducible rfl)
      try go_frame
      refine' wpAnyH_take (i := 24) (oi := { dst := some 67, op := Op.load 22 (Operand.tmp 66), type := 22, pos := "law.go:30", after := #[{ on := 23, ground := Ground.data }, { on := 22, ground := Ground.guard }], guard := some (22, true) }) rfl (by kernel_rfl) (by kernel_rfl) (by kernel_rfl) (fun _ _ _ h => h) (Or.inl ⟨by rfl, ?_⟩) (by assumption) ?_
      rotate_left
      · (intro w hSw; (try dsimp only at hSw); go_simp; try with_reducible rfl)
      try go_frame
      refine' wpAnyH_take (i := 25) (oi := { dst := some 68, op := Op.fieldAddr 28 (Operand.tmp 2) 9, type := 0, pos := "law.go:30", after := #[{ on := 22, ground := Ground.guard }], guard := some (22, true) }) rfl (by kernel_rfl) (by kernel_rfl) (by kernel_rfl) (fun _ _ _ h => h) (Or.inl ⟨by rfl, ?_⟩) (by assumption) ?_
      rotate_left
      · (intro w hSw; (try dsimp only at hSw); go_simp; try with_reducible rfl)
      try go_frame
      refine' wpAnyH_take (i := 26) (oi := { dst := some 69, op := Op.load 22 (Operand.tmp 68), type := 22, pos := "law.go:30", after := #[{ on := 25, ground := Ground.data }, { on := 22, ground := Ground.guard }], guard := some (22, true) }) rfl (by kernel_rfl) (by kernel_rfl) (by kernel_rfl) (fun _ _ _ h => h) (Or.inl ⟨by rfl, ?_⟩) (by assumption) ?_
      rotate_left
      · (intro w hSw; (try dsimp only at hSw); go_simp; try with_reducible rfl)
      try go_frame
      refine' wpAnyH_take (i := 27) (oi := { dst := some 70, op := Op.call { callee := Callee.builtin Builtin.len, args := #[Operand.tmp 69], argTypes := #[22] }, type := 3, pos := "law.go:30", after := #[{ on := 26, ground := Ground.data }, { on := 22, ground := Ground.guard }], guard := some (22, true) }) rfl (by kernel_rfl) (by kernel_rfl) (by kernel_rfl) (fun _ _ _ h => h) (Or.inl ⟨by rfl, ?_⟩) (by assumption) ?_
      rotate_left
      · (intro w hSw; (try dsimp only at hSw); go_simp; try with_reducible rfl)
      try go_frame
      refine' wpAnyH_take (i := 28) (oi := { dst := some 71, op := Op.binOp BinOp.add 3 (Operand.tmp 70) (Operand.const (Value.int IntKind.i64 1)) 3, type := 3, pos := "law.go:30", after := #[{ on := 27, ground := Ground.data }, { on := 22, ground := Ground.guard }], guard := some (22, true) }) rfl (by kernel_rfl) (by kernel_rfl) (by kernel_rfl) (fun _ _ _ h => h) (Or.inl ⟨by rfl, ?_⟩) (by assumption) ?_
      rotate_left
      · (intro w hSw; (try dsimp only at hSw); go_simp; try with_reducible rfl)
      try go_frame
      refine' wpAnyH_take (i := 29) (oi := { dst := some 72, op := Op.slice 22 (Operand.tmp 67) none (some (Operand.tmp 71)) none, type := 22, pos := "law.go:30", after := #[{ on := 24, ground := Ground.data }, { on := 28, ground := Ground.data }, { on := 22, ground := Ground.guard }], guard := some (22, true) }) rfl (by kernel_rfl) (by kernel_rfl) (by kernel_rfl) (fun _ _ _ h => h) (Or.inl ⟨by rfl, ?_⟩) (by assumption) ?_
      rotate_left
      · (intro w hSw; (try dsimp only at hSw); go_simp; try with_reducible rfl)
      try go_frame
      refine' wpAnyH_take (i := 30) (oi := { dst := some 73, op := Op.fieldAddr 28 (Operand.tmp 2) 9, type := 0, pos := "law.go:30", after := #[{ on := 22, ground := Ground.guard }], guard := some (22, true) }) rfl (by kernel_rfl) (by kernel_rfl) (by kernel_rfl) (fun _ _ _ h => h) (Or.inl ⟨by rfl, ?_⟩) (by assumption) ?_
      rotate_left
      · (intro w hSw; (try dsimp only at hSw); go_simp; try with_reducible rfl)
      try go_frame
      refine' wpAnyH_take (i := 31) (oi := { dst := some 74, op := Op.load 22 (Operand.tmp 73), type := 22, pos := "law.go:30", after := #[{ on := 30, ground := Ground.data }, { on := 22, ground := Ground.guard }], guard := some (22, true) }) rfl (by kernel_rfl) (by kernel_rfl) (by kernel_rfl) (fun _ _ _ h => h) (Or.inl ⟨by rfl, ?_⟩) (by assumption) ?_
      rotate_left
      · (intro w hSw; (try dsimp only at hSw); go_simp; try with_reducible rfl)
      try go_frame
      refine' wpAnyH_take (i := 32) (oi := { dst := some 75, op := Op.call { callee := Callee.builtin Builtin.len, args := #[Operand.tmp 74], argTypes := #[22] }, type := 3, pos := "law.go:30", after := #[{ on := 31, ground := Ground.data }, { on := 22, ground := Ground.guard }], guard := some (22, true) }) rfl (by kernel_rfl) (by kernel_rfl) (by kernel_rfl) (fun _ _ _ h => h) (Or.inl ⟨by rfl, ?_⟩) (by assumption) ?_
      rotate_left
      · (intro w hSw; (try dsimp only at hSw); go_simp; try with_reducible rfl)
      try go_frame
      refine' wpAnyH_take (i := 33) (oi := { dst := some 76, op := Op.indexAddr 22 (Operand.tmp 72) (Operand.tmp 75), type := 0, pos := "law.go:30", after := #[{ on := 29, ground := Ground.data }, { on := 32, ground := Ground.data }, { on := 22, ground := Ground.guard }], guard := some (22, true) }) rfl (by kernel_rfl) (by kernel_rfl) (by kernel_rfl) (fun _ _ _ h => h) (Or.inl ⟨by rfl, ?_⟩) (by assumption) ?_
      rotate_left
      · (intro w hSw; (try dsimp only at hSw); go_simp; try with_reducible rfl)
      try go_frame
      refine' wpAnyH_take (i := 34) (oi := { dst := some 77, op := Op.fieldAddr 30 (Operand.tmp 76) 0, type := 0, pos := "law.go:30", after := #[{ on := 33, ground := Ground.data }, { on := 22, ground := Ground.guard }], guard := some (22, true) }) rfl (by kernel_rfl) (by kernel_rfl) (by kernel_rfl) (fun _ _ _ h => h) (Or.inl ⟨by rfl, ?_⟩) (by assumption) ?_
      rotate_left
      · (intro w hSw; (try dsimp only at hSw); go_simp; try with_reducible rfl)
      try go_frame
      refine' wpAnyH_take (i := 35) (oi := { dst := some 78, op := Op.load 3 (Operand.tmp 77), type := 3, pos := "law.go:30", after := #[{ on := 34, ground := Ground.data }, { on := 22, ground := Ground.guard }], guard := some (22, true) }) rfl (by kernel_rfl) (by kernel_rfl) (by kernel_rfl) (fun _ _ _ h => h) (Or.inl ⟨by rfl, ?_⟩) (by assumption) ?_
      rotate_left
      · (intro w hSw; (try dsimp only at hSw); go_simp; try with_reducible rfl)
      try go_frame
      refine' wpAnyH_take (i := 36) (oi := { dst := some 79, op := Op.binOp BinOp.eql 3 (Operand.tmp 78) (Operand.const (Value.int IntKind.i64 (-70))) 3, type := 4, pos := "law.go:30", after := #[{ on := 35, ground := Ground.data }, { on := 22, ground := Ground.guard }], guard := some (22, true) }) rfl (by kernel_rfl) (by kernel_rfl) (by kernel_rfl) (fun _ _ _ h => h) (Or.inl ⟨by rfl, ?_⟩) (by assumption) ?_
      rotate_left
      · (intro w hSw; (try dsimp only at hSw); go_simp; try with_reducible rfl)
      try go_frame
      refine' wpAnyH_take (i := 37) (oi := { dst := some 80, op := Op.pick (Operand.tmp 65) (Operand.tmp 79) (Operand.const (Value.bool false)), type := 4, pos := "law.go:30", after := #[{ on := 22, ground := Ground.data }, { on := 36, ground := Ground.data }], guard := none }) rfl (by kernel_rfl) (by kernel_rfl) (by kernel_rfl) (fun _ _ _ h => h) (Or.inl ⟨by rfl, ?_⟩) (by assumption) ?_
      rotate_left
      · (intro w hSw; (try dsimp only at hSw); go_simp; try with_reducible rfl)
      try go_frame
      refine' wpAnyH_take (i := 38) (oi := { dst := some 81, op := Op.move (Operand.tmp 80), type := 4, pos := "law.go:30", after := #[{ on := 37, ground := Ground.data }, { on := 22, ground := Ground.chain }], guard := none }) rfl (by kernel_rfl) (by kernel_rfl) (by kernel_rfl) (fun _ _ _ h => h) (Or.inl ⟨by rfl, ?_⟩) (by assumption) ?_
      rotate_left
      · (intro w hSw; (try dsimp only at hSw); go_simp; try with_reducible rfl)
      try go_frame
      have BQ := B5.trans (bq.mono B5.size)
      refine wpAnyH_ready (rs := [39]) (by kernel_rfl) (by simp) (AllReadyH.cons (o := { dst := some 82, op := Op.call { callee := Callee.value (Operand.func 14), args := #[], argTypes := #[] }, type := 4, pos := "law.go:30", after := #[{ on := 38, ground := Ground.chain }, { on := 38, ground := Ground.guard }], guard := some (38, true) }) rfl (fun K hK => ?_) AllReadyH.nil)
      go_simp
      refine (HW.out _ BQ).mono ?_; rintro e wz ⟨rfl, dwz⟩; have BZ := BQ.trans (dwz.mono BQ.size); have hwz := keep7 hHeld dwz
      try go_wp2_with fail
      refine hK.out _ _ (hwz) (fun hHeld => ?_)
      clear hK K
      try go_frame
      refine' wpAnyH_take (i := 40) (oi := { dst := some 83, op := Op.pick (Operand.tmp 81) (Operand.tmp 82) (Operand.const (Value.bool false)), type := 4, pos := "law.go:30", after := #[{ on := 38, ground := Ground.data }, { on := 39, ground := Ground.data }], guard := none }) rfl (by kernel_rfl) (by kernel_rfl) (by kernel_rfl) (fun _ _ _ h => h) (Or.inl ⟨by rfl, ?_⟩) (by assumption) ?_
      rotate_left
      · (intro w hSw; (try dsimp only at hSw); go_simp; try with_reducible rfl)
      try go_frame
      refine' wpAnyH_take (i := 41) (oi := { dst := some 4, op := Op.assign (Operand.tmp 83), type := 4, pos := "law.go:30", after := #[{ on := 40, ground := Ground.data }, { on := 39, ground := Ground.chain }, { on := 0, ground := Ground.phase }, { on := 1, ground := Ground.phase }, { on := 2, ground := Ground.phase }, { on := 3, ground := Ground.phase }, { on := 4, ground := Ground.phase }, { on := 5, ground := Ground.phase }, { on := 6, ground := Ground.phase }, { on := 7, ground := Ground.phase }, { on := 8, ground := Ground.phase }, { on := 9, ground := Ground.phase }, { on := 10, ground := Ground.phase }, { on := 11, ground := Ground.phase }, { on := 12, ground := Ground.phase }, { on := 13, ground := Ground.phase }, { on := 14, ground := Ground.phase }, { on := 15, ground := Ground.phase }, { on := 16, ground := Ground.phase }, { on := 17, ground := Ground.phase }, { on := 18, ground := Ground.phase }, { on := 19, ground := Ground.phase }, { on := 20, ground := Ground.phase }, { on := 21, ground := Ground.phase }, { on := 22, ground := Ground.phase }, { on := 23, ground := Ground.phase }, { on := 24, ground := Ground.phase }, { on := 25, ground := Ground.phase }, { on := 26, ground := Ground.phase }, { on := 27, ground := Ground.phase }, { on := 28, ground := Ground.phase }, { on := 29, ground := Ground.phase }, { on := 30, ground := Ground.phase }, { on := 31, ground := Ground.phase }, { on := 32, ground := Ground.phase }, { on := 33, ground := Ground.phase }, { on := 34, ground := Ground.phase }, { on := 35, ground := Ground.phase }, { on := 36, ground := Ground.phase }, { on := 37, ground := Ground.phase }, { on := 38, ground := Ground.phase }, { on := 39, ground := Ground.phase }, { on := 40, ground := Ground.phase }], guard := none }) rfl (by kernel_rfl) (by kernel_rfl) (by kernel_rfl) (fun _ _ _ h => h) (Or.inl ⟨by rfl, ?_⟩) (by assumption) ?_
      rotate_left
      · (intro w hSw; (try dsimp only at hSw); go_simp; try with_reducible rfl)
      try go_frame
      refine wpAnyH_done (by kernel_rfl) ?_ _
      go_wp2
      go_ret
      exact ⟨rfl, BZ⟩
end Go.Proofs.YtnekpehgaojkaaaDoor
