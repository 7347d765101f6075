/- The walk of MailEnds. (Printed by wip/src/XC11v.py.) -/
import Derived.Test.YtnekpehgaojkaaaDoorC11t
import Derived.Deep.RegionHeld3
namespace Go.Proofs.YtnekpehgaojkaaaDoor
open Go.RowKit

def atFrm (m : MNum) (x : Int) : MNum := { m with frm := x }
def atDst (m : MNum) (x : Int) : MNum := { m with dst := x }
def atStamp (m : MNum) (x : Int) : MNum := { m with stamp := x }
theorem set_frm (m : MNum) (x : Int) (ve : Value) : (mailCells m ve).setIfInBounds 1 (.int .i64 x) = mailCells (atFrm m x) ve := by simp [mailCells, atFrm]
theorem set_dst (m : MNum) (x : Int) (ve : Value) : (mailCells m ve).setIfInBounds 2 (.int .i64 x) = mailCells (atDst m x) ve := by simp [mailCells, atDst]
theorem set_stamp (m : MNum) (x : Int) (ve : Value) : (mailCells m ve).setIfInBounds 8 (.int .i64 x) = mailCells (atStamp m x) ve := by simp [mailCells, atStamp]
/-- The parts of a message that may be. -/
theorem may_parts {m : MNum} {es : List Ent} {n : Int} (h : mayM m es n = true) : within n 2 7 = true ∧ within m.frm 0 (n - 1) = true ∧ within m.dst 0 (n - 1) = true ∧ within m.kind 1 10 = true ∧ fieldsM m es = true := by
  unfold mayM headM at h
  simp only [Bool.and_eq_true] at h
  exact ⟨h.1.1, h.1.2.1, h.1.2.2.1, h.1.2.2.2, h.2⟩
theorem may_frm {m : MNum} {es : List Ent} {n : Int} (h : mayM m es n = true) (x : Int) : mayM (atFrm m x) es n = within x 0 (n - 1) := by
  obtain ⟨h1, h2, h3, h4, h5⟩ := may_parts h
  unfold mayM headM
  rw [show fieldsM (atFrm m x) es = fieldsM m es from rfl, show (atFrm m x).frm = x from rfl, show (atFrm m x).dst = m.dst from rfl, show (atFrm m x).kind = m.kind from rfl, h1, h3, h4, h5]
  simp
theorem may_dst {m : MNum} {es : List Ent} {n : Int} (h : mayM m es n = true) (x : Int) : mayM (atDst m x) es n = within x 0 (n - 1) := by
  obtain ⟨h1, h2, h3, h4, h5⟩ := may_parts h
  unfold mayM headM
  rw [show fieldsM (atDst m x) es = fieldsM m es from rfl, show (atDst m x).frm = m.frm from rfl, show (atDst m x).dst = x from rfl, show (atDst m x).kind = m.kind from rfl, h1, h2, h4, h5]
  simp
/-- Has its kind a Stamp? -/
def hasT (k : Int) : Bool := k == 1 || (k == 2 || (k == 4 || k == 5))
theorem hasT_eq (k : Int) : hasT k = (k == 1 || k == 2 || k == 4 || k == 5) := by unfold hasT; simp only [Bool.or_assoc]
theorem may_stamp {m : MNum} {es : List Ent} {n : Int} (h : mayM m es n = true) (x : Int) : mayM (atStamp m x) es n = (if hasT m.kind then within x 0 1073741824 else within x 0 0) := by
  obtain ⟨h1, h2, h3, h4, h5⟩ := may_parts h
  have ht : within x 0 (tMost m.kind) = (if hasT m.kind then within x 0 1073741824 else within x 0 0) := by
    unfold tMost hasT
    by_cases k1 : m.kind = 1
    · simp [k1]
    · by_cases k2 : m.kind = 2
      · simp [k2]
      · by_cases k3 : m.kind = 4
        · simp [k3]
        · by_cases k4 : m.kind = 5
          · simp [k4]
          · simp [k1, k2, k3, k4]
  unfold fieldsM at h5
  simp only [Bool.and_eq_true] at h5
  obtain ⟨f1, f2, f3, f4, f5, f6, f7, f8, f9⟩ := h5
  unfold mayM headM fieldsM
  rw [show (atStamp m x).frm = m.frm from rfl, show (atStamp m x).dst = m.dst from rfl, show (atStamp m x).kind = m.kind from rfl, show (atStamp m x).stream = m.stream from rfl, show (atStamp m x).epoch = m.epoch from rfl, show (atStamp m x).view = m.view from rfl, show (atStamp m x).base = m.base from rfl,
    show (atStamp m x).length = m.length from rfl, show (atStamp m x).stamp = x from rfl, show entsM (atStamp m x) es = entsM m es from rfl, show promM (atStamp m x) es = promM m es from rfl, show beside (atStamp m x) = beside m from rfl, h1, h2, h3, h4, f1, f2, f3, f4, f5, f7, f8, f9, ht]
  simp
/-- What a block was it is behind an alloc. -/
theorem alloc_keep {w : World} {g : Nat} {o z : Obj} (h : w.heap[g]? = some o) : (w.alloc z).heap[g]? = some o :=
  (((Below.refl w.heap.size w).alloc (Nat.le_refl _) z).block g (Array.getElem?_eq_some_iff.1 h).1).trans h
/-- Three blocks of its own, of the same cells. -/
def Three (cs : Array Value) (X wx : World) (p q r : Nat) : Prop := Below X.heap.size X wx ∧ X.heap.size ≤ p ∧ X.heap.size ≤ q ∧ X.heap.size ≤ r ∧ p ≠ q ∧ p ≠ r ∧ q ≠ r ∧
  wx.heap[p]? = some (.cells cs 28 (0, 0)) ∧ wx.heap[q]? = some (.cells cs 28 (0, 0)) ∧ wx.heap[r]? = some (.cells cs 28 (0, 0))
theorem three_of {cs o1 o2 o3 : Array Value} {X wA : World} {p q r : Nat} (hb : Below X.heap.size X wA) (h1 : X.heap.size ≤ p) (h2 : X.heap.size ≤ q) (h3 : X.heap.size ≤ r) (n1 : p ≠ q) (n2 : p ≠ r) (n3 : q ≠ r)
    (k1 : wA.heap[p]? = some (.cells o1 28 (0, 0))) (k2 : wA.heap[q]? = some (.cells o2 28 (0, 0))) (k3 : wA.heap[r]? = some (.cells o3 28 (0, 0))) : Three cs X (((wA.setRow p cs).setRow q cs).setRow r cs) p q r := by
  refine ⟨below_setRow (below_setRow (below_setRow hb h1 _) h2 _) h3 _, h1, h2, h3, n1, n2, n3, ?_, ?_, ?_⟩
  · rw [setRow_other _ _ _ _ n2, setRow_other _ _ _ _ n1]
    exact setRow_heap _ _ _ _ _ _ k1
  · rw [setRow_other _ _ _ _ n3]
    exact setRow_heap _ _ _ _ _ _ ((setRow_other _ _ _ _ n1.symm).trans k2)
  · exact setRow_heap _ _ _ _ _ _ ((setRow_other _ _ _ _ n3.symm).trans ((setRow_other _ _ _ _ n2.symm).trans k3))
theorem three_built (X : World) (Z : Array Value) : ∃ wA, ((X.alloc (.cells Z 28)).alloc (.cells Z 28)).alloc (.cells Z 28) = wA ∧ Below X.heap.size X wA ∧ wA.heap.size = X.heap.size + 3 ∧
    ∀ p, X.heap.size ≤ p → p < X.heap.size + 3 → wA.heap[p]? = some (.cells Z 28 (0, 0)) := by
  obtain ⟨w1, e1, b1, s1, h1⟩ := boxed X Z 28
  obtain ⟨w2, e2, b2, s2, h2⟩ := boxed w1 Z 28
  obtain ⟨w3, e3, b3, s3, h3⟩ := boxed w2 Z 28
  rw [e1, e2, e3]
  refine ⟨w3, rfl, b1.trans ((b2.mono b1.size).trans (b3.mono (by omega))), by omega, fun p hp hq => ?_⟩
  have hc : p = X.heap.size ∨ p = w1.heap.size ∨ p = w2.heap.size := by omega
  rcases hc with rfl | rfl | rfl
  · exact (b3.block _ (by omega)).trans ((b2.block _ (by omega)).trans h1)
  · exact (b3.block _ (by omega)).trans h2
  · exact h3

set_option maxRecDepth 100000 in
set_option maxHeartbeats 8000000 in
theorem mailEnds_walk (m : MNum) (es : List Ent) (v : Value) (n x y : Int) (_hn : (Lit.int .i64 n).wf = true) (_hx : (Lit.int .i64 x).wf = true) (_hy : (Lit.int .i64 y).wf = true) (w : World) (hK : KindsAt w) (hM : MsgIn w v m es) :
    Calls Tryd.prog 7 #[v, .int .i64 n, .agg #[.int .i64 x, .int .i64 y]] w fun e w' => e = .returned (.bool true) ∧ Below w.heap.size w w' := by
  obtain ⟨ae, ce, rfl, hm, he, hoe⟩ := hM.parts
  clear hM hm hoe
  obtain ⟨w1, e1, b1, s1, g1⟩ := boxed w (mailCells m (.slice ae es.length ce)) 28
  obtain ⟨w2, e2, b2, s2, g2⟩ := boxed w1 #[.int .i64 x, .int .i64 y] 44
  have E2 := Lib.hid (show (w.alloc (.cells (mailCells m (.slice ae es.length ce)) 28)).alloc (.cells #[.int .i64 x, .int .i64 y] 44) = w2 by rw [← e2, ← e1])
  have B2 := b1.trans (b2.mono b1.size)
  have G2 := Lib.hid ((b2.block w.heap.size (by omega)).trans g1)
  have a0 : w2.cell? ⟨w.heap.size + 1, 0, none⟩ = some (.int .i64 x) := by rw [← s1]; simp [World.cell?, g2]
  have a1 : w2.cell? ⟨w.heap.size + 1, 1, none⟩ = some (.int .i64 y) := by rw [← s1]; simp [World.cell?, g2]
  have hp := hK.pos
  have HKK := Lib.hid (fun (wx : World) (bx : Below w.heap.size w wx) => hK.below bx hp)
  have HW := Lib.hid (fun (wx : World) (bx : Below w.heap.size w wx) => works_any (hK.below bx hp))
  have HE := Lib.hid ((he.below b1).below b2)
  clear e1 e2 g1 g2 he hK
  go_enter Tryd.func7, Tryd.ntmps7
  go_upto_region 1 with fail
  rw [E2.out]
  go_quiet (fail)
  obtain ⟨wd, hwd, Bd, bd, sd, hd⟩ : ∃ wd, w2.drewN nq = wd ∧ Below w.heap.size w wd ∧ Below w2.heap.size w2 wd ∧ wd.heap.size = w.heap.size + 2 ∧ wd.heap = w2.heap := ⟨_, rfl, below_drewN B2 _, below_drewN (Below.refl _ _) _, by show w2.heap.size = _; omega, rfl⟩
  rw [hwd]
  have Gd := Lib.hid (show wd.heap[w.heap.size]? = some (.cells (mailCells m (.slice ae es.length ce)) 28 (0, 0)) by rw [hd]; exact G2.out)
  have HEd := Lib.hid (HE.out.below bd)
  have C9 := Lib.hid (msg_cell Gd.out 9 (.slice ae es.length ce) rfl)
  clear hwd hd a0 a1
  (try simp only [Exit.then])
  by_cases hl : 500 < es.length
  · go_wp2_with (refine load_oneG (by rfl) _ _ rfl _ rfl _ _ C9.out Tryd.underlying22 rfl ?_)
    refine (HW.out _ Bd).mono ?_
    rintro e w3 ⟨rfl, b3⟩
    go_wp2
    go_ret
    exact ⟨rfl, Bd.trans (b3.mono Bd.size)⟩
  · have HC := Lib.hid (fun (mm : MNum) (wx : World) (bx : Below wd.heap.size wd wx) => checkM_any mm n (HKK.out wx (Bd.trans (bx.mono Bd.size))) (HEd.out.below bx) (by omega))
    have d0 : decide ((500 : Int) < (es.length : Int)) = false := by rw [decide_eq_false_iff_not]; omega
    have hr := msg_range Gd.out
    cases hmy : mayM m es n with
    | false =>
      have HM := Lib.hid hmy
      clear hmy
      go_wp2_with (first | (refine load_midG (by rfl) _ _ rfl _ _ rfl _ _ hr Tryd.underlying28 rfl (by kernel_rfl) ?_) | (refine load_oneG (by rfl) _ _ rfl _ rfl _ _ C9.out Tryd.underlying22 rfl ?_))
      refine (HC.out m _ (Below.refl _ _)).mono ?_
      rw [HM.out, show errno false 2 = 2 from rfl]
      rintro e w3 ⟨rfl, b3⟩
      have B3 := Bd.trans (b3.mono Bd.size)
      clear hr
      go_wp2_with fail
      refine (HW.out _ B3).mono ?_
      rintro e w4 ⟨rfl, b4⟩
      go_wp2
      go_ret
      exact ⟨rfl, B3.trans (b4.mono B3.size)⟩
    | true =>
      have HM := Lib.hid hmy
      have H1 := Lib.hid (may_frm hmy x)
      have H2 := Lib.hid (may_dst hmy x)
      have H3 := Lib.hid (may_stamp hmy y)
      clear hmy
      go_wp2_with (first | (refine load_midG (by rfl) _ _ rfl _ _ rfl _ _ hr Tryd.underlying28 rfl (by kernel_rfl) ?_) | (refine load_oneG (by rfl) _ _ rfl _ rfl _ _ C9.out Tryd.underlying22 rfl ?_))
      refine (HC.out m _ (Below.refl _ _)).mono ?_
      rw [HM.out, show errno true 2 = 0 from rfl]
      rintro e w3 ⟨rfl, b3⟩
      have B3 := Bd.trans (b3.mono Bd.size)
      have s3 := b3.size
      clear hr
      go_upto_region 4 with fail
      go_cut [9, 10, 11] (fun a b c wx => ∃ p q r, a = .pointer (some ⟨p, 0, none⟩) ∧ b = .pointer (some ⟨q, 0, none⟩) ∧ c = .pointer (some ⟨r, 0, none⟩) ∧ Three (mailCells m (.slice ae es.length ce)) w3 wx p q r)
      case first =>
        have G3 : w3.heap[w.heap.size]? = some (.cells (mailCells m (.slice ae es.length ce)) 28 (0, 0)) := (b3.block _ (by omega)).trans Gd.out
        obtain ⟨wA, eA, bA, sA, hA⟩ : ∃ wA, (((w3.alloc (.cells #[.int .i64 0, .int .i64 0, .int .i64 0, .int .i64 0, .int .i64 0, .int .i64 0, .int .i64 0, .int .i64 0, .int .i64 0, .slice none 0 0, .int .i64 0, .int .i64 0, .int .i64 0, .int .i64 0, .int .i64 0, .int .i64 0, .int .i64 0, .int .i64 0] 28)).alloc (.cells #[.int .i64 0, .int .i64 0, .int .i64 0, .int .i64 0, .int .i64 0, .int .i64 0, .int .i64 0, .int .i64 0, .int .i64 0, .slice none 0 0, .int .i64 0, .int .i64 0, .int .i64 0, .int .i64 0, .int .i64 0, .int .i64 0, .int .i64 0, .int .i64 0] 28)).alloc (.cells #[.int .i64 0, .int .i64 0, .int .i64 0, .int .i64 0, .int .i64 0, .int .i64 0, .int .i64 0, .int .i64 0, .int .i64 0, .slice none 0 0, .int .i64 0, .int .i64 0, .int .i64 0, .int .i64 0, .int .i64 0, .int .i64 0, .int .i64 0, .int .i64 0] 28)).drew = wA ∧ Below w3.heap.size w3 wA ∧ wA.heap.size = w3.heap.size + 3 ∧
            ∀ p, w3.heap.size ≤ p → p < w3.heap.size + 3 → wA.heap[p]? = some (.cells #[.int .i64 0, .int .i64 0, .int .i64 0, .int .i64 0, .int .i64 0, .int .i64 0, .int .i64 0, .int .i64 0, .int .i64 0, .slice none 0 0, .int .i64 0, .int .i64 0, .int .i64 0, .int .i64 0, .int .i64 0, .int .i64 0, .int .i64 0, .int .i64 0] 28 (0, 0)) := by
          obtain ⟨wB, eB, bB, sB, hB⟩ := three_built w3 #[.int .i64 0, .int .i64 0, .int .i64 0, .int .i64 0, .int .i64 0, .int .i64 0, .int .i64 0, .int .i64 0, .int .i64 0, .slice none 0 0, .int .i64 0, .int .i64 0, .int .i64 0, .int .i64 0, .int .i64 0, .int .i64 0, .int .i64 0, .int .i64 0]
          exact ⟨wB.drew, by rw [eB], bB.drew, sB, hB⟩
        have EA := Lib.hid eA
        have HA := Lib.hid hA
        have hlt : w.heap.size < w3.heap.size := by omega
        have GA : wA.heap[w.heap.size]? = some (.cells (mailCells m (.slice ae es.length ce)) 28 (0, 0)) := (bA.block _ (by omega)).trans G3
        have BA := bA
        clear eA hA
        refine wp_region_held_drew (S := fun w' => w'.heap[w.heap.size]? = some (.cells (mailCells m (.slice ae es.length ce)) 28 (0, 0))) (by kernel_rfl) G3 (fun hHeld => ?_)
        refine' wpAnyH_take (i := 0) (oi := { dst := some 29, op := Op.load 28 (Operand.tmp 3), type := 28, pos := "outright.go:55", after := #[], guard := none }) (v := _) rfl (by kernel_rfl) (by kernel_rfl) (by kernel_rfl) (fun _ _ _ h => h) (yieldsIf_load_mid (by rfl) _ _ rfl _ _ rfl _ _ (fun _ h => msg_range h) Tryd.underlying28 rfl (by kernel_rfl)) (by assumption) ?_
        try simp only [Act.put, List.setIfInBounds_toArray, List.set_cons_zero, List.set_cons_succ, Array.toArray_toList]
        refine' wpAnyH_take (i := 1) (oi := { dst := some 30, op := Op.load 28 (Operand.tmp 3), type := 28, pos := "outright.go:55", after := #[{ on := 6, ground := Ground.gcOnly Departure.lateStores }], guard := none }) (v := _) rfl (by kernel_rfl) (by kernel_rfl) (by kernel_rfl) (fun _ _ _ h => h) (yieldsIf_load_mid (by rfl) _ _ rfl _ _ rfl _ _ (fun _ h => msg_range h) Tryd.underlying28 rfl (by kernel_rfl)) (by assumption) ?_
        try simp only [Act.put, List.setIfInBounds_toArray, List.set_cons_zero, List.set_cons_succ, Array.toArray_toList]
        refine' wpAnyH_take (i := 2) (oi := { dst := some 31, op := Op.load 28 (Operand.tmp 3), type := 28, pos := "outright.go:55", after := #[{ on := 7, ground := Ground.gcOnly Departure.lateStores }], guard := none }) (v := _) rfl (by kernel_rfl) (by kernel_rfl) (by kernel_rfl) (fun _ _ _ h => h) (yieldsIf_load_mid (by rfl) _ _ rfl _ _ rfl _ _ (fun _ h => msg_range h) Tryd.underlying28 rfl (by kernel_rfl)) (by assumption) ?_
        try simp only [Act.put, List.setIfInBounds_toArray, List.set_cons_zero, List.set_cons_succ, Array.toArray_toList]
        refine wpAnyH_ready (rs := [3, 4, 5]) (by kernel_rfl) (by simp) (AllReadyH.cons (o := { dst := some 9, op := Op.alloc 28, type := 0, pos := "outright.go:55", after := #[], guard := none }) rfl (fun K hK => ?_) (AllReadyH.cons (o := { dst := some 10, op := Op.alloc 28, type := 0, pos := "outright.go:55", after := #[], guard := none }) rfl (fun K hK => ?_) (AllReadyH.cons (o := { dst := some 11, op := Op.alloc 28, type := 0, pos := "outright.go:55", after := #[], guard := none }) rfl (fun K hK => ?_) AllReadyH.nil)))
        · try skip
          go_simp
          refine hK.out _ _ (alloc_keep hHeld) (fun hHeld => ?_)
          clear hK K
          try go_frame
          refine wpAnyH_ready (rs := [4, 5]) (by kernel_rfl) (by simp) (AllReadyH.cons (o := { dst := some 10, op := Op.alloc 28, type := 0, pos := "outright.go:55", after := #[], guard := none }) rfl (fun K hK => ?_) (AllReadyH.cons (o := { dst := some 11, op := Op.alloc 28, type := 0, pos := "outright.go:55", after := #[], guard := none }) rfl (fun K hK => ?_) AllReadyH.nil))
          · try skip
            go_simp
            refine hK.out _ _ (alloc_keep hHeld) (fun hHeld => ?_)
            clear hK K
            try go_frame
            refine wpAnyH_ready (rs := [5]) (by kernel_rfl) (by simp) (AllReadyH.cons (o := { dst := some 11, op := Op.alloc 28, type := 0, pos := "outright.go:55", after := #[], guard := none }) rfl (fun K hK => ?_) AllReadyH.nil)
            go_simp
            refine hK.out _ _ (alloc_keep hHeld) (fun hHeld => ?_)
            clear hK K
            try go_frame
            rw [EA.out]
            replace hHeld := GA
            refine wpAnyH_ready (rs := [6]) (by kernel_rfl) (by simp) (AllReadyH.cons (o := { dst := none, op := Op.store 28 (Operand.tmp 9) (Operand.tmp 29), type := 0, pos := "outright.go:55", after := #[{ on := 3, ground := Ground.data }, { on := 0, ground := Ground.data }, { on := 0, ground := Ground.phase }, { on := 1, ground := Ground.textOnly Departure.lateStores }, { on := 2, ground := Ground.textOnly Departure.lateStores }, { on := 3, ground := Ground.phase }, { on := 4, ground := Ground.phase }, { on := 5, ground := Ground.phase }], guard := none }) rfl (fun K hK => ?_) AllReadyH.nil)
            rw [if_pos (by rfl)]
            refine wp_store_row _ _ _ rfl (w3.heap.size) (mailCells m (.slice ae es.length ce)) rfl rfl _ _ (HA.out (w3.heap.size) (by omega) (by omega)) (by kernel_rfl) rfl (msg_one _ _ _ _) ?_
            refine hK.out _ _ ((setRow_other _ _ _ _ (by omega)).trans hHeld) (fun hHeld => ?_)
            clear hK K
            try go_frame
            refine wpAnyH_ready (rs := [7]) (by kernel_rfl) (by simp) (AllReadyH.cons (o := { dst := none, op := Op.store 28 (Operand.tmp 10) (Operand.tmp 30), type := 0, pos := "outright.go:55", after := #[{ on := 4, ground := Ground.data }, { on := 1, ground := Ground.data }, { on := 6, ground := Ground.chain }, { on := 0, ground := Ground.phase }, { on := 1, ground := Ground.phase }, { on := 2, ground := Ground.textOnly Departure.lateStores }, { on := 3, ground := Ground.phase }, { on := 4, ground := Ground.phase }, { on := 5, ground := Ground.phase }, { on := 6, ground := Ground.phase }], guard := none }) rfl (fun K hK => ?_) AllReadyH.nil)
            rw [if_pos (by rfl)]
            refine wp_store_row _ _ _ rfl (w3.heap.size + 1) (mailCells m (.slice ae es.length ce)) rfl rfl _ _ ((setRow_other _ _ _ _ (by omega)).trans (HA.out (w3.heap.size + 1) (by omega) (by omega))) (by kernel_rfl) rfl (msg_one _ _ _ _) ?_
            refine hK.out _ _ ((setRow_other _ _ _ _ (by omega)).trans hHeld) (fun hHeld => ?_)
            clear hK K
            try go_frame
            refine wpAnyH_ready (rs := [8]) (by kernel_rfl) (by simp) (AllReadyH.cons (o := { dst := none, op := Op.store 28 (Operand.tmp 11) (Operand.tmp 31), type := 0, pos := "outright.go:55", after := #[{ on := 5, ground := Ground.data }, { on := 2, ground := Ground.data }, { on := 7, ground := Ground.chain }, { on := 0, ground := Ground.phase }, { on := 1, ground := Ground.phase }, { on := 2, ground := Ground.phase }, { on := 3, ground := Ground.phase }, { on := 4, ground := Ground.phase }, { on := 5, ground := Ground.phase }, { on := 6, ground := Ground.phase }, { on := 7, ground := Ground.phase }], guard := none }) rfl (fun K hK => ?_) AllReadyH.nil)
            rw [if_pos (by rfl)]
            refine wp_store_row _ _ _ rfl (w3.heap.size + 1 + 1) (mailCells m (.slice ae es.length ce)) rfl rfl _ _ ((setRow_other _ _ _ _ (by omega)).trans ((setRow_other _ _ _ _ (by omega)).trans (HA.out (w3.heap.size + 1 + 1) (by omega) (by omega)))) (by kernel_rfl) rfl (msg_one _ _ _ _) ?_
            refine hK.out _ _ ((setRow_other _ _ _ _ (by omega)).trans hHeld) (fun hHeld => ?_)
            clear hK K
            try go_frame
            refine wpAnyH_done (by kernel_rfl) ?_ _
            go_wp2_with fail
            go_meet
            exact ⟨_, _, _, rfl, rfl, rfl, three_of BA (by omega) (by omega) (by omega) (by omega) (by omega) (by omega) (HA.out (w3.heap.size) (by omega) (by omega)) (HA.out (w3.heap.size + 1) (by omega) (by omega)) (HA.out (w3.heap.size + 1 + 1) (by omega) (by omega))⟩
          · try skip
            go_simp
            refine hK.out _ _ (alloc_keep hHeld) (fun hHeld => ?_)
            clear hK K
            try go_frame
            refine wpAnyH_ready (rs := [4]) (by kernel_rfl) (by simp) (AllReadyH.cons (o := { dst := some 10, op := Op.alloc 28, type := 0, pos := "outright.go:55", after := #[], guard := none }) rfl (fun K hK => ?_) AllReadyH.nil)
            go_simp
            refine hK.out _ _ (alloc_keep hHeld) (fun hHeld => ?_)
            clear hK K
            try go_frame
            rw [EA.out]
            replace hHeld := GA
            refine wpAnyH_ready (rs := [6]) (by kernel_rfl) (by simp) (AllReadyH.cons (o := { dst := none, op := Op.store 28 (Operand.tmp 9) (Operand.tmp 29), type := 0, pos := "outright.go:55", after := #[{ on := 3, ground := Ground.data }, { on := 0, ground := Ground.data }, { on := 0, ground := Ground.phase }, { on := 1, ground := Ground.textOnly Departure.lateStores }, { on := 2, ground := Ground.textOnly Departure.lateStores }, { on := 3, ground := Ground.phase }, { on := 4, ground := Ground.phase }, { on := 5, ground := Ground.phase }], guard := none }) rfl (fun K hK => ?_) AllReadyH.nil)
            rw [if_pos (by rfl)]
            refine wp_store_row _ _ _ rfl (w3.heap.size) (mailCells m (.slice ae es.length ce)) rfl rfl _ _ (HA.out (w3.heap.size) (by omega) (by omega)) (by kernel_rfl) rfl (msg_one _ _ _ _) ?_
            refine hK.out _ _ ((setRow_other _ _ _ _ (by omega)).trans hHeld) (fun hHeld => ?_)
            clear hK K
            try go_frame
            refine wpAnyH_ready (rs := [7]) (by kernel_rfl) (by simp) (AllReadyH.cons (o := { dst := none, op := Op.store 28 (Operand.tmp 10) (Operand.tmp 30), type := 0, pos := "outright.go:55", after := #[{ on := 4, ground := Ground.data }, { on := 1, ground := Ground.data }, { on := 6, ground := Ground.chain }, { on := 0, ground := Ground.phase }, { on := 1, ground := Ground.phase }, { on := 2, ground := Ground.textOnly Departure.lateStores }, { on := 3, ground := Ground.phase }, { on := 4, ground := Ground.phase }, { on := 5, ground := Ground.phase }, { on := 6, ground := Ground.phase }], guard := none }) rfl (fun K hK => ?_) AllReadyH.nil)
            rw [if_pos (by rfl)]
            refine wp_store_row _ _ _ rfl (w3.heap.size + 1 + 1) (mailCells m (.slice ae es.length ce)) rfl rfl _ _ ((setRow_other _ _ _ _ (by omega)).trans (HA.out (w3.heap.size + 1 + 1) (by omega) (by omega))) (by kernel_rfl) rfl (msg_one _ _ _ _) ?_
            refine hK.out _ _ ((setRow_other _ _ _ _ (by omega)).trans hHeld) (fun hHeld => ?_)
            clear hK K
            try go_frame
            refine wpAnyH_ready (rs := [8]) (by kernel_rfl) (by simp) (AllReadyH.cons (o := { dst := none, op := Op.store 28 (Operand.tmp 11) (Operand.tmp 31), type := 0, pos := "outright.go:55", after := #[{ on := 5, ground := Ground.data }, { on := 2, ground := Ground.data }, { on := 7, ground := Ground.chain }, { on := 0, ground := Ground.phase }, { on := 1, ground := Ground.phase }, { on := 2, ground := Ground.phase }, { on := 3, ground := Ground.phase }, { on := 4, ground := Ground.phase }, { on := 5, ground := Ground.phase }, { on := 6, ground := Ground.phase }, { on := 7, ground := Ground.phase }], guard := none }) rfl (fun K hK => ?_) AllReadyH.nil)
            rw [if_pos (by rfl)]
            refine wp_store_row _ _ _ rfl (w3.heap.size + 1) (mailCells m (.slice ae es.length ce)) rfl rfl _ _ ((setRow_other _ _ _ _ (by omega)).trans ((setRow_other _ _ _ _ (by omega)).trans (HA.out (w3.heap.size + 1) (by omega) (by omega)))) (by kernel_rfl) rfl (msg_one _ _ _ _) ?_
            refine hK.out _ _ ((setRow_other _ _ _ _ (by omega)).trans hHeld) (fun hHeld => ?_)
            clear hK K
            try go_frame
            refine wpAnyH_done (by kernel_rfl) ?_ _
            go_wp2_with fail
            go_meet
            exact ⟨_, _, _, rfl, rfl, rfl, three_of BA (by omega) (by omega) (by omega) (by omega) (by omega) (by omega) (HA.out (w3.heap.size) (by omega) (by omega)) (HA.out (w3.heap.size + 1 + 1) (by omega) (by omega)) (HA.out (w3.heap.size + 1) (by omega) (by omega))⟩
        · try skip
          go_simp
          refine hK.out _ _ (alloc_keep hHeld) (fun hHeld => ?_)
          clear hK K
          try go_frame
          refine wpAnyH_ready (rs := [3, 5]) (by kernel_rfl) (by simp) (AllReadyH.cons (o := { dst := some 9, op := Op.alloc 28, type := 0, pos := "outright.go:55", after := #[], guard := none }) rfl (fun K hK => ?_) (AllReadyH.cons (o := { dst := some 11, op := Op.alloc 28, type := 0, pos := "outright.go:55", after := #[], guard := none }) rfl (fun K hK => ?_) AllReadyH.nil))
          · try skip
            go_simp
            refine hK.out _ _ (alloc_keep hHeld) (fun hHeld => ?_)
            clear hK K
            try go_frame
            refine wpAnyH_ready (rs := [5]) (by kernel_rfl) (by simp) (AllReadyH.cons (o := { dst := some 11, op := Op.alloc 28, type := 0, pos := "outright.go:55", after := #[], guard := none }) rfl (fun K hK => ?_) AllReadyH.nil)
            go_simp
            refine hK.out _ _ (alloc_keep hHeld) (fun hHeld => ?_)
            clear hK K
            try go_frame
            rw [EA.out]
            replace hHeld := GA
            refine wpAnyH_ready (rs := [6]) (by kernel_rfl) (by simp) (AllReadyH.cons (o := { dst := none, op := Op.store 28 (Operand.tmp 9) (Operand.tmp 29), type := 0, pos := "outright.go:55", after := #[{ on := 3, ground := Ground.data }, { on := 0, ground := Ground.data }, { on := 0, ground := Ground.phase }, { on := 1, ground := Ground.textOnly Departure.lateStores }, { on := 2, ground := Ground.textOnly Departure.lateStores }, { on := 3, ground := Ground.phase }, { on := 4, ground := Ground.phase }, { on := 5, ground := Ground.phase }], guard := none }) rfl (fun K hK => ?_) AllReadyH.nil)
            rw [if_pos (by rfl)]
            refine wp_store_row _ _ _ rfl (w3.heap.size + 1) (mailCells m (.slice ae es.length ce)) rfl rfl _ _ (HA.out (w3.heap.size + 1) (by omega) (by omega)) (by kernel_rfl) rfl (msg_one _ _ _ _) ?_
            refine hK.out _ _ ((setRow_other _ _ _ _ (by omega)).trans hHeld) (fun hHeld => ?_)
            clear hK K
            try go_frame
            refine wpAnyH_ready (rs := [7]) (by kernel_rfl) (by simp) (AllReadyH.cons (o := { dst := none, op := Op.store 28 (Operand.tmp 10) (Operand.tmp 30), type := 0, pos := "outright.go:55", after := #[{ on := 4, ground := Ground.data }, { on := 1, ground := Ground.data }, { on := 6, ground := Ground.chain }, { on := 0, ground := Ground.phase }, { on := 1, ground := Ground.phase }, { on := 2, ground := Ground.textOnly Departure.lateStores }, { on := 3, ground := Ground.phase }, { on := 4, ground := Ground.phase }, { on := 5, ground := Ground.phase }, { on := 6, ground := Ground.phase }], guard := none }) rfl (fun K hK => ?_) AllReadyH.nil)
            rw [if_pos (by rfl)]
            refine wp_store_row _ _ _ rfl (w3.heap.size) (mailCells m (.slice ae es.length ce)) rfl rfl _ _ ((setRow_other _ _ _ _ (by omega)).trans (HA.out (w3.heap.size) (by omega) (by omega))) (by kernel_rfl) rfl (msg_one _ _ _ _) ?_
            refine hK.out _ _ ((setRow_other _ _ _ _ (by omega)).trans hHeld) (fun hHeld => ?_)
            clear hK K
            try go_frame
            refine wpAnyH_ready (rs := [8]) (by kernel_rfl) (by simp) (AllReadyH.cons (o := { dst := none, op := Op.store 28 (Operand.tmp 11) (Operand.tmp 31), type := 0, pos := "outright.go:55", after := #[{ on := 5, ground := Ground.data }, { on := 2, ground := Ground.data }, { on := 7, ground := Ground.chain }, { on := 0, ground := Ground.phase }, { on := 1, ground := Ground.phase }, { on := 2, ground := Ground.phase }, { on := 3, ground := Ground.phase }, { on := 4, ground := Ground.phase }, { on := 5, ground := Ground.phase }, { on := 6, ground := Ground.phase }, { on := 7, ground := Ground.phase }], guard := none }) rfl (fun K hK => ?_) AllReadyH.nil)
            rw [if_pos (by rfl)]
            refine wp_store_row _ _ _ rfl (w3.heap.size + 1 + 1) (mailCells m (.slice ae es.length ce)) rfl rfl _ _ ((setRow_other _ _ _ _ (by omega)).trans ((setRow_other _ _ _ _ (by omega)).trans (HA.out (w3.heap.size + 1 + 1) (by omega) (by omega)))) (by kernel_rfl) rfl (msg_one _ _ _ _) ?_
            refine hK.out _ _ ((setRow_other _ _ _ _ (by omega)).trans hHeld) (fun hHeld => ?_)
            clear hK K
            try go_frame
            refine wpAnyH_done (by kernel_rfl) ?_ _
            go_wp2_with fail
            go_meet
            exact ⟨_, _, _, rfl, rfl, rfl, three_of BA (by omega) (by omega) (by omega) (by omega) (by omega) (by omega) (HA.out (w3.heap.size + 1) (by omega) (by omega)) (HA.out (w3.heap.size) (by omega) (by omega)) (HA.out (w3.heap.size + 1 + 1) (by omega) (by omega))⟩
          · try skip
            go_simp
            refine hK.out _ _ (alloc_keep hHeld) (fun hHeld => ?_)
            clear hK K
            try go_frame
            refine wpAnyH_ready (rs := [3]) (by kernel_rfl) (by simp) (AllReadyH.cons (o := { dst := some 9, op := Op.alloc 28, type := 0, pos := "outright.go:55", after := #[], guard := none }) rfl (fun K hK => ?_) AllReadyH.nil)
            go_simp
            refine hK.out _ _ (alloc_keep hHeld) (fun hHeld => ?_)
            clear hK K
            try go_frame
            rw [EA.out]
            replace hHeld := GA
            refine wpAnyH_ready (rs := [6]) (by kernel_rfl) (by simp) (AllReadyH.cons (o := { dst := none, op := Op.store 28 (Operand.tmp 9) (Operand.tmp 29), type := 0, pos := "outright.go:55", after := #[{ on := 3, ground := Ground.data }, { on := 0, ground := Ground.data }, { on := 0, ground := Ground.phase }, { on := 1, ground := Ground.textOnly Departure.lateStores }, { on := 2, ground := Ground.textOnly Departure.lateStores }, { on := 3, ground := Ground.phase }, { on := 4, ground := Ground.phase }, { on := 5, ground := Ground.phase }], guard := none }) rfl (fun K hK => ?_) AllReadyH.nil)
            rw [if_pos (by rfl)]
            refine wp_store_row _ _ _ rfl (w3.heap.size + 1 + 1) (mailCells m (.slice ae es.length ce)) rfl rfl _ _ (HA.out (w3.heap.size + 1 + 1) (by omega) (by omega)) (by kernel_rfl) rfl (msg_one _ _ _ _) ?_
            refine hK.out _ _ ((setRow_other _ _ _ _ (by omega)).trans hHeld) (fun hHeld => ?_)
            clear hK K
            try go_frame
            refine wpAnyH_ready (rs := [7]) (by kernel_rfl) (by simp) (AllReadyH.cons (o := { dst := none, op := Op.store 28 (Operand.tmp 10) (Operand.tmp 30), type := 0, pos := "outright.go:55", after := #[{ on := 4, ground := Ground.data }, { on := 1, ground := Ground.data }, { on := 6, ground := Ground.chain }, { on := 0, ground := Ground.phase }, { on := 1, ground := Ground.phase }, { on := 2, ground := Ground.textOnly Departure.lateStores }, { on := 3, ground := Ground.phase }, { on := 4, ground := Ground.phase }, { on := 5, ground := Ground.phase }, { on := 6, ground := Ground.phase }], guard := none }) rfl (fun K hK => ?_) AllReadyH.nil)
            rw [if_pos (by rfl)]
            refine wp_store_row _ _ _ rfl (w3.heap.size) (mailCells m (.slice ae es.length ce)) rfl rfl _ _ ((setRow_other _ _ _ _ (by omega)).trans (HA.out (w3.heap.size) (by omega) (by omega))) (by kernel_rfl) rfl (msg_one _ _ _ _) ?_
            refine hK.out _ _ ((setRow_other _ _ _ _ (by omega)).trans hHeld) (fun hHeld => ?_)
            clear hK K
            try go_frame
            refine wpAnyH_ready (rs := [8]) (by kernel_rfl) (by simp) (AllReadyH.cons (o := { dst := none, op := Op.store 28 (Operand.tmp 11) (Operand.tmp 31), type := 0, pos := "outright.go:55", after := #[{ on := 5, ground := Ground.data }, { on := 2, ground := Ground.data }, { on := 7, ground := Ground.chain }, { on := 0, ground := Ground.phase }, { on := 1, ground := Ground.phase }, { on := 2, ground := Ground.phase }, { on := 3, ground := Ground.phase }, { on := 4, ground := Ground.phase }, { on := 5, ground := Ground.phase }, { on := 6, ground := Ground.phase }, { on := 7, ground := Ground.phase }], guard := none }) rfl (fun K hK => ?_) AllReadyH.nil)
            rw [if_pos (by rfl)]
            refine wp_store_row _ _ _ rfl (w3.heap.size + 1) (mailCells m (.slice ae es.length ce)) rfl rfl _ _ ((setRow_other _ _ _ _ (by omega)).trans ((setRow_other _ _ _ _ (by omega)).trans (HA.out (w3.heap.size + 1) (by omega) (by omega)))) (by kernel_rfl) rfl (msg_one _ _ _ _) ?_
            refine hK.out _ _ ((setRow_other _ _ _ _ (by omega)).trans hHeld) (fun hHeld => ?_)
            clear hK K
            try go_frame
            refine wpAnyH_done (by kernel_rfl) ?_ _
            go_wp2_with fail
            go_meet
            exact ⟨_, _, _, rfl, rfl, rfl, three_of BA (by omega) (by omega) (by omega) (by omega) (by omega) (by omega) (HA.out (w3.heap.size + 1 + 1) (by omega) (by omega)) (HA.out (w3.heap.size) (by omega) (by omega)) (HA.out (w3.heap.size + 1) (by omega) (by omega))⟩
        · try skip
          go_simp
          refine hK.out _ _ (alloc_keep hHeld) (fun hHeld => ?_)
          clear hK K
          try go_frame
          refine wpAnyH_ready (rs := [3, 4]) (by kernel_rfl) (by simp) (AllReadyH.cons (o := { dst := some 9, op := Op.alloc 28, type := 0, pos := "outright.go:55", after := #[], guard := none }) rfl (fun K hK => ?_) (AllReadyH.cons (o := { dst := some 10, op := Op.alloc 28, type := 0, pos := "outright.go:55", after := #[], guard := none }) rfl (fun K hK => ?_) AllReadyH.nil))
          · try skip
            go_simp
            refine hK.out _ _ (alloc_keep hHeld) (fun hHeld => ?_)
            clear hK K
            try go_frame
            refine wpAnyH_ready (rs := [4]) (by kernel_rfl) (by simp) (AllReadyH.cons (o := { dst := some 10, op := Op.alloc 28, type := 0, pos := "outright.go:55", after := #[], guard := none }) rfl (fun K hK => ?_) AllReadyH.nil)
            go_simp
            refine hK.out _ _ (alloc_keep hHeld) (fun hHeld => ?_)
            clear hK K
            try go_frame
            rw [EA.out]
            replace hHeld := GA
            refine wpAnyH_ready (rs := [6]) (by kernel_rfl) (by simp) (AllReadyH.cons (o := { dst := none, op := Op.store 28 (Operand.tmp 9) (Operand.tmp 29), type := 0, pos := "outright.go:55", after := #[{ on := 3, ground := Ground.data }, { on := 0, ground := Ground.data }, { on := 0, ground := Ground.phase }, { on := 1, ground := Ground.textOnly Departure.lateStores }, { on := 2, ground := Ground.textOnly Departure.lateStores }, { on := 3, ground := Ground.phase }, { on := 4, ground := Ground.phase }, { on := 5, ground := Ground.phase }], guard := none }) rfl (fun K hK => ?_) AllReadyH.nil)
            rw [if_pos (by rfl)]
            refine wp_store_row _ _ _ rfl (w3.heap.size + 1) (mailCells m (.slice ae es.length ce)) rfl rfl _ _ (HA.out (w3.heap.size + 1) (by omega) (by omega)) (by kernel_rfl) rfl (msg_one _ _ _ _) ?_
            refine hK.out _ _ ((setRow_other _ _ _ _ (by omega)).trans hHeld) (fun hHeld => ?_)
            clear hK K
            try go_frame
            refine wpAnyH_ready (rs := [7]) (by kernel_rfl) (by simp) (AllReadyH.cons (o := { dst := none, op := Op.store 28 (Operand.tmp 10) (Operand.tmp 30), type := 0, pos := "outright.go:55", after := #[{ on := 4, ground := Ground.data }, { on := 1, ground := Ground.data }, { on := 6, ground := Ground.chain }, { on := 0, ground := Ground.phase }, { on := 1, ground := Ground.phase }, { on := 2, ground := Ground.textOnly Departure.lateStores }, { on := 3, ground := Ground.phase }, { on := 4, ground := Ground.phase }, { on := 5, ground := Ground.phase }, { on := 6, ground := Ground.phase }], guard := none }) rfl (fun K hK => ?_) AllReadyH.nil)
            rw [if_pos (by rfl)]
            refine wp_store_row _ _ _ rfl (w3.heap.size + 1 + 1) (mailCells m (.slice ae es.length ce)) rfl rfl _ _ ((setRow_other _ _ _ _ (by omega)).trans (HA.out (w3.heap.size + 1 + 1) (by omega) (by omega))) (by kernel_rfl) rfl (msg_one _ _ _ _) ?_
            refine hK.out _ _ ((setRow_other _ _ _ _ (by omega)).trans hHeld) (fun hHeld => ?_)
            clear hK K
            try go_frame
            refine wpAnyH_ready (rs := [8]) (by kernel_rfl) (by simp) (AllReadyH.cons (o := { dst := none, op := Op.store 28 (Operand.tmp 11) (Operand.tmp 31), type := 0, pos := "outright.go:55", after := #[{ on := 5, ground := Ground.data }, { on := 2, ground := Ground.data }, { on := 7, ground := Ground.chain }, { on := 0, ground := Ground.phase }, { on := 1, ground := Ground.phase }, { on := 2, ground := Ground.phase }, { on := 3, ground := Ground.phase }, { on := 4, ground := Ground.phase }, { on := 5, ground := Ground.phase }, { on := 6, ground := Ground.phase }, { on := 7, ground := Ground.phase }], guard := none }) rfl (fun K hK => ?_) AllReadyH.nil)
            rw [if_pos (by rfl)]
            refine wp_store_row _ _ _ rfl (w3.heap.size) (mailCells m (.slice ae es.length ce)) rfl rfl _ _ ((setRow_other _ _ _ _ (by omega)).trans ((setRow_other _ _ _ _ (by omega)).trans (HA.out (w3.heap.size) (by omega) (by omega)))) (by kernel_rfl) rfl (msg_one _ _ _ _) ?_
            refine hK.out _ _ ((setRow_other _ _ _ _ (by omega)).trans hHeld) (fun hHeld => ?_)
            clear hK K
            try go_frame
            refine wpAnyH_done (by kernel_rfl) ?_ _
            go_wp2_with fail
            go_meet
            exact ⟨_, _, _, rfl, rfl, rfl, three_of BA (by omega) (by omega) (by omega) (by omega) (by omega) (by omega) (HA.out (w3.heap.size + 1) (by omega) (by omega)) (HA.out (w3.heap.size + 1 + 1) (by omega) (by omega)) (HA.out (w3.heap.size) (by omega) (by omega))⟩
          · try skip
            go_simp
            refine hK.out _ _ (alloc_keep hHeld) (fun hHeld => ?_)
            clear hK K
            try go_frame
            refine wpAnyH_ready (rs := [3]) (by kernel_rfl) (by simp) (AllReadyH.cons (o := { dst := some 9, op := Op.alloc 28, type := 0, pos := "outright.go:55", after := #[], guard := none }) rfl (fun K hK => ?_) AllReadyH.nil)
            go_simp
            refine hK.out _ _ (alloc_keep hHeld) (fun hHeld => ?_)
            clear hK K
            try go_frame
            rw [EA.out]
            replace hHeld := GA
            refine wpAnyH_ready (rs := [6]) (by kernel_rfl) (by simp) (AllReadyH.cons (o := { dst := none, op := Op.store 28 (Operand.tmp 9) (Operand.tmp 29), type := 0, pos := "outright.go:55", after := #[{ on := 3, ground := Ground.data }, { on := 0, ground := Ground.data }, { on := 0, ground := Ground.phase }, { on := 1, ground := Ground.textOnly Departure.lateStores }, { on := 2, ground := Ground.textOnly Departure.lateStores }, { on := 3, ground := Ground.phase }, { on := 4, ground := Ground.phase }, { on := 5, ground := Ground.phase }], guard := none }) rfl (fun K hK => ?_) AllReadyH.nil)
            rw [if_pos (by rfl)]
            refine wp_store_row _ _ _ rfl (w3.heap.size + 1 + 1) (mailCells m (.slice ae es.length ce)) rfl rfl _ _ (HA.out (w3.heap.size + 1 + 1) (by omega) (by omega)) (by kernel_rfl) rfl (msg_one _ _ _ _) ?_
            refine hK.out _ _ ((setRow_other _ _ _ _ (by omega)).trans hHeld) (fun hHeld => ?_)
            clear hK K
            try go_frame
            refine wpAnyH_ready (rs := [7]) (by kernel_rfl) (by simp) (AllReadyH.cons (o := { dst := none, op := Op.store 28 (Operand.tmp 10) (Operand.tmp 30), type := 0, pos := "outright.go:55", after := #[{ on := 4, ground := Ground.data }, { on := 1, ground := Ground.data }, { on := 6, ground := Ground.chain }, { on := 0, ground := Ground.phase }, { on := 1, ground := Ground.phase }, { on := 2, ground := Ground.textOnly Departure.lateStores }, { on := 3, ground := Ground.phase }, { on := 4, ground := Ground.phase }, { on := 5, ground := Ground.phase }, { on := 6, ground := Ground.phase }], guard := none }) rfl (fun K hK => ?_) AllReadyH.nil)
            rw [if_pos (by rfl)]
            refine wp_store_row _ _ _ rfl (w3.heap.size + 1) (mailCells m (.slice ae es.length ce)) rfl rfl _ _ ((setRow_other _ _ _ _ (by omega)).trans (HA.out (w3.heap.size + 1) (by omega) (by omega))) (by kernel_rfl) rfl (msg_one _ _ _ _) ?_
            refine hK.out _ _ ((setRow_other _ _ _ _ (by omega)).trans hHeld) (fun hHeld => ?_)
            clear hK K
            try go_frame
            refine wpAnyH_ready (rs := [8]) (by kernel_rfl) (by simp) (AllReadyH.cons (o := { dst := none, op := Op.store 28 (Operand.tmp 11) (Operand.tmp 31), type := 0, pos := "outright.go:55", after := #[{ on := 5, ground := Ground.data }, { on := 2, ground := Ground.data }, { on := 7, ground := Ground.chain }, { on := 0, ground := Ground.phase }, { on := 1, ground := Ground.phase }, { on := 2, ground := Ground.phase }, { on := 3, ground := Ground.phase }, { on := 4, ground := Ground.phase }, { on := 5, ground := Ground.phase }, { on := 6, ground := Ground.phase }, { on := 7, ground := Ground.phase }], guard := none }) rfl (fun K hK => ?_) AllReadyH.nil)
            rw [if_pos (by rfl)]
            refine wp_store_row _ _ _ rfl (w3.heap.size) (mailCells m (.slice ae es.length ce)) rfl rfl _ _ ((setRow_other _ _ _ _ (by omega)).trans ((setRow_other _ _ _ _ (by omega)).trans (HA.out (w3.heap.size) (by omega) (by omega)))) (by kernel_rfl) rfl (msg_one _ _ _ _) ?_
            refine hK.out _ _ ((setRow_other _ _ _ _ (by omega)).trans hHeld) (fun hHeld => ?_)
            clear hK K
            try go_frame
            refine wpAnyH_done (by kernel_rfl) ?_ _
            go_wp2_with fail
            go_meet
            exact ⟨_, _, _, rfl, rfl, rfl, three_of BA (by omega) (by omega) (by omega) (by omega) (by omega) (by omega) (HA.out (w3.heap.size + 1 + 1) (by omega) (by omega)) (HA.out (w3.heap.size + 1) (by omega) (by omega)) (HA.out (w3.heap.size) (by omega) (by omega))⟩
      case rest =>
        obtain ⟨p, q, r, rfl, rfl, rfl, hT⟩ := hcut
        obtain ⟨bT, hp1, hq1, hr1, npq, npr, nqr, kp, kq, kr⟩ := hT
        have G3 : w3.heap[w.heap.size]? = some (.cells (mailCells m (.slice ae es.length ce)) 28 (0, 0)) := (b3.block _ (by omega)).trans Gd.out
        have KG := (bT.block w.heap.size (by omega)).trans G3
        have gp : w.heap.size ≠ p := by omega
        have gq : w.heap.size ≠ q := by omega
        have gr : w.heap.size ≠ r := by omega
        have bc : Below wd.heap.size wd wc := b3.trans (bT.mono s3)
        have KP := Lib.hid kp
        have KQ := Lib.hid kq
        have KR := Lib.hid kr
        have KG := Lib.hid KG
        have x1 := msg_cell kp 1 (.int .i64 m.frm) rfl
        have f1 := thawed kp 1
        clear kp kq kr G3 C9 d0
        go_upto_region 6 with fail
        obtain ⟨wa, ea⟩ : ∃ wa, wc.setCell ⟨p, 1, none⟩ (.int .i64 x) = wa := ⟨_, rfl⟩
        obtain ⟨t1, o1, W1⟩ := rd_setTo (R := p) (o := 1) (v := .int .i64 x) KP.out (Wrote.refl _ _ wc)
        rw [ea] at t1 o1 W1 ⊢
        rw [set_frm] at t1
        have ba : Below wd.heap.size wd wa := bc.trans (W1.toBelow bc.size (by omega) (by omega))
        have KPa := Lib.hid t1
        have kq := (o1 q npq.symm).trans KQ.out
        have KQa := Lib.hid kq
        have KRa := Lib.hid ((o1 r npr.symm).trans KR.out)
        have KGa := Lib.hid ((o1 w.heap.size gp).trans KG.out)
        clear x1 f1 t1 o1 W1 ea
        have x2 := msg_cell kq 2 (.int .i64 m.dst) rfl
        have f2 := thawed kq 2
        clear kq
        go_upto_region 7 with fail
        obtain ⟨wb, eb⟩ : ∃ wb, wa.setCell ⟨q, 2, none⟩ (.int .i64 x) = wb := ⟨_, rfl⟩
        obtain ⟨t2, o2, W2⟩ := rd_setTo (R := q) (o := 2) (v := .int .i64 x) KQa.out (Wrote.refl _ _ wa)
        rw [eb] at t2 o2 W2 ⊢
        rw [set_dst] at t2
        have bb : Below wd.heap.size wd wb := ba.trans (W2.toBelow ba.size (by omega) (by omega))
        have KPb := Lib.hid ((o2 p npq).trans KPa.out)
        have KQb := Lib.hid t2
        have kr := (o2 r nqr.symm).trans KRa.out
        have KRb := Lib.hid kr
        have KGb := Lib.hid ((o2 w.heap.size gq).trans KGa.out)
        clear x2 f2 t2 o2 W2 eb
        have x3 := msg_cell kr 8 (.int .i64 m.stamp) rfl
        have f3 := thawed kr 8
        clear kr
        go_upto_region 8 with fail
        obtain ⟨w8, e8⟩ : ∃ w8, wb.setCell ⟨r, 8, none⟩ (.int .i64 y) = w8 := ⟨_, rfl⟩
        obtain ⟨t3, o3, W3⟩ := rd_setTo (R := r) (o := 8) (v := .int .i64 y) KRb.out (Wrote.refl _ _ wb)
        rw [e8] at t3 o3 W3 ⊢
        rw [set_stamp] at t3
        have b8 : Below wd.heap.size wd w8 := bb.trans (W3.toBelow bb.size (by omega) (by omega))
        have KP8 := Lib.hid ((o3 p npr).trans KPb.out)
        have KQ8 := Lib.hid ((o3 q nqr).trans KQb.out)
        have KR8 := Lib.hid t3
        have kg := (o3 w.heap.size gr).trans KGb.out
        have ltp := (Array.getElem?_eq_some_iff.1 KP8.out).1
        have ltq := (Array.getElem?_eq_some_iff.1 KQ8.out).1
        have ltr := (Array.getElem?_eq_some_iff.1 KR8.out).1
        have c0 := msg_cell kg 0 (.int .i64 m.kind) rfl
        clear x3 f3 t3 o3 W3 e8 kg KPa KQa KRa KGa KPb KQb KRb KGb KP KQ KR KG E2 G2 HE Gd HEd
        go_cut [12] (fun c wx => c = .bool (within x 0 (n - 1)) ∧ wx = w8)
        case first =>
          go_wp2
          all_goals
            go_meet
            exact ⟨congrArg Value.bool (by rw [Bool.eq_iff_iff, within_iff]; first | omega | (simp; omega)), rfl⟩
        case rest =>
          obtain ⟨rfl, rfl⟩ := hcut
          go_upto_region 9 with fail
          go_cut [13] (fun c wx => c = .bool (hasT m.kind) ∧ wx = wc)
          case first =>
            go_wp2
            all_goals
              go_meet
              exact ⟨congrArg Value.bool (by rw [hasT_eq] <;> simp [*]), rfl⟩
          case rest =>
            obtain ⟨rfl, rfl⟩ := hcut
            clear c0
            have r1 := msg_range KP8.out
            generalize within x 0 (n - 1) = pI at *
            obtain ⟨pS, hS⟩ : ∃ pS, mayM (atStamp m y) es n = pS := ⟨_, rfl⟩
            have HS := Lib.hid (show pS = (if hasT m.kind then within y 0 1073741824 else within y 0 0) from hS.symm.trans H3.out)
            have HSS := Lib.hid hS
            clear hS H3
            generalize hasT m.kind = pT at *
            cases pI
            all_goals
              go_wp2_with (first | (refine load_midG (by rfl) _ _ rfl _ _ rfl _ _ r1 Tryd.underlying28 rfl (by kernel_rfl) ?_))
              refine (HC.out (atFrm m x) _ b8).mono ?_
              rw [H1.out]
              rintro e w9 ⟨rfl, b9⟩
              clear r1
              have s9 := b9.size
              have B9 := b8.trans (b9.mono b8.size)
              have r2 := msg_range ((b9.block _ ltq).trans KQ8.out)
              simp only [show errno true 2 = 0 from rfl, show errno false 2 = 2 from rfl]
              go_wp2_with (first | (refine load_midG (by rfl) _ _ rfl _ _ rfl _ _ r2 Tryd.underlying28 rfl (by kernel_rfl) ?_))
              refine (HC.out (atDst m x) _ B9).mono ?_
              rw [H2.out]
              rintro e w10 ⟨rfl, b10⟩
              clear r2
              have b810 := b9.trans (b10.mono s9)
              have B10 := b8.trans (b810.mono b8.size)
              have r3 := msg_range ((b810.block _ ltr).trans KR8.out)
              simp only [show errno true 2 = 0 from rfl, show errno false 2 = 2 from rfl]
              go_wp2_with (first | (refine load_midG (by rfl) _ _ rfl _ _ rfl _ _ r3 Tryd.underlying28 rfl (by kernel_rfl) ?_))
              refine (HC.out (atStamp m y) _ B10).mono ?_
              rw [HSS.out]
              rintro e w11 ⟨rfl, b11⟩
              clear r3
              have B11 := Bd.trans ((B10.trans (b11.mono B10.size)).mono Bd.size)
              have HW2 := Lib.hid (HW.out _ B11)
              cases pT <;> cases pS
              all_goals
                have hs := Lib.hid HS.out
                clear HS
                simp only [show errno true 2 = 0 from rfl, show errno false 2 = 2 from rfl]
                go_wp2_with (refine HW2.out.mono ?_; rintro e w12 ⟨rfl, b12⟩)
                all_goals
                  go_ret
                  first
                    | exact ⟨rfl, B11.trans (b12.mono B11.size)⟩
                    | (exfalso; have h := hs.out; simp [within] at h; omega)
                    | exact ⟨ret_bool (by (simp [*] <;> omega)), B11.trans (b12.mono B11.size)⟩
end Go.Proofs.YtnekpehgaojkaaaDoor
