/- The reference's Check and Encode (layer 11). (Printed by wip/src/XC11G.py.) -/
import Derived.Test.YtnekpehgaojkaaaDoorC11C
import Derived.Test.YtnekpehgaojkaaaDoorC11w
import Derived.Deep.RegionHeld3
namespace Go.Proofs.YtnekpehgaojkaaaDoor
open Go.RowKit

theorem refCheckM_any {B : Nat} {w : World} (m : MNum) (n : Int) {ae : Option Addr} {ce : Nat} {es : List Ent} (he : EntsAt B w (.slice ae es.length ce) es) (hl : es.length ≤ 1000000) :
    Calls Tryd.prog 12 #[.agg (mailCells m (.slice ae es.length ce)), .int .i64 n] w fun e w' => e = .returned (.int .i64 (errno (mayM m es n) 2)) ∧ Below w.heap.size w w' := by
  obtain ⟨w1, e1, b1, s1, g1⟩ := boxed w (mailCells m (.slice ae es.length ce)) 28
  have E1 := Lib.hid e1
  have hr := msg_range g1
  have HM := refMayM_any m n (he.below b1) hl
  cases hmy : mayM m es n
  all_goals
    rw [hmy] at HM
    have HX := Lib.hid HM
    clear e1 g1 he HM
    go_enter Tryd.func12, Tryd.ntmps12
    go_upto_region 1 with fail
    (try rw [E1.out])
    go_wp2_with (refine load_midG (by rfl) _ _ rfl _ _ rfl _ _ hr Tryd.underlying28 rfl (by kernel_rfl) ?_)
    refine HX.out.mono ?_
    rintro e w2 ⟨rfl, b2⟩
    clear hr
    go_wp2
    go_ret
    exact ⟨rfl, b1.trans (b2.mono b1.size)⟩
theorem ord_one' (o : Ord) : (ordCells o).all (·.oneCell') = true := by simp [ordCells, Value.oneCell']
theorem ans_one (a : Ans) : (ansCells a).all (·.oneCell') = true := by simp [ansCells, Value.oneCell']
theorem ord_range {w : World} {g : Nat} {m : MNum} {ve : Value} {t : TypeId} (h : w.heap[g]? = some (.cells (mailCells m ve) t (0, 0))) : w.rangeAt g 10 (ordCells m.ord).toList := by
  have hm := msg_range h
  intro j v hv
  have h2 : (mailCells m ve).toList[10 + j]? = some v := by
    match j, hv with
    | 0, hv | 1, hv | 2, hv | 3, hv | 4, hv => exact hv
    | j + 5, hv => simp [ordCells] at hv
  have := hm _ _ h2
  rw [Nat.zero_add] at this
  exact this
theorem ans_range {w : World} {g : Nat} {m : MNum} {ve : Value} {t : TypeId} (h : w.heap[g]? = some (.cells (mailCells m ve) t (0, 0))) : w.rangeAt g 15 (ansCells m.ans).toList := by
  have hm := msg_range h
  intro j v hv
  have h2 : (mailCells m ve).toList[15 + j]? = some v := by
    match j, hv with
    | 0, hv | 1, hv | 2, hv => exact hv
    | j + 3, hv => simp [ansCells] at hv
  have := hm _ _ h2
  rw [Nat.zero_add] at this
  exact this
theorem keep_alloc {w : World} {g : Nat} {o z : Obj} (h : w.heap[g]? = some o) : (w.alloc z).heap[g]? = some o :=
  (((Below.refl w.heap.size w).alloc (Nat.le_refl _) z).block g (Array.getElem?_eq_some_iff.1 h).1).trans h
def Two (a b : Array Value) (X wx : World) (p q : Nat) : Prop := Below X.heap.size X wx ∧ X.heap.size ≤ p ∧ X.heap.size ≤ q ∧ wx.heap[p]? = some (.cells a 24 (0, 0)) ∧ wx.heap[q]? = some (.cells b 26 (0, 0))
theorem two_of {a b o1 o2 : Array Value} {X wA : World} {p q : Nat} (hb : Below X.heap.size X wA) (h1 : X.heap.size ≤ p) (h2 : X.heap.size ≤ q) (n1 : p ≠ q)
    (k1 : wA.heap[p]? = some (.cells o1 24 (0, 0))) (k2 : wA.heap[q]? = some (.cells o2 26 (0, 0))) : Two a b X ((wA.setRow p a).setRow q b) p q := by
  refine ⟨below_setRow (below_setRow hb h1 _) h2 _, h1, h2, ?_, ?_⟩
  · rw [setRow_other _ _ _ _ n1]
    exact setRow_heap _ _ _ _ _ _ k1
  · exact setRow_heap _ _ _ _ _ _ ((setRow_other _ _ _ _ n1.symm).trans k2)
theorem putL_two (a b : List Int) : putL (a ++ b) = putL a ++ putL b := by simp [putL]
theorem encM_str (m : MNum) (es : List Ent) : str (putL m.nums) ++ str (putL [(es.length : Int)] ++ entsL es) ++ str (putL (m.ord.nums ++ m.ans.nums)) = str (encM m es) := by
  unfold encM
  rw [str_append, str_append, putL_two]
  simp only [List.append_assoc]

set_option maxRecDepth 100000 in
set_option maxHeartbeats 8000000 in
theorem refEncodeM_any {B : Nat} {w : World} (m : MNum) (n : Int) {ae : Option Addr} {ce : Nat} {es : List Ent} (he : EntsAt B w (.slice ae es.length ce) es) (hl : es.length ≤ 1000000) (hm : MNumOk m) (hoe : EntsOk es) :
    Calls Tryd.prog 10 #[.agg (mailCells m (.slice ae es.length ce)), .int .i64 n] w fun e w' => e = .returned (.tuple #[.string (str (if mayM m es n then encM m es else [])), .int .i64 (errno (mayM m es n) 2)]) ∧ Below w.heap.size w w' := by
  obtain ⟨w1, e1, b1, s1, g1⟩ := boxed w (mailCells m (.slice ae es.length ce)) 28
  have E1 := Lib.hid e1
  have G1 := Lib.hid g1
  have hr := msg_range g1
  have HM := refMayM_any m n (he.below b1) hl
  have HE1 := Lib.hid (he.below b1)
  cases hmy : mayM m es n with
  | false =>
    rw [hmy] at HM
    have HX := Lib.hid HM
    rw [if_neg (by decide), str_nil]
    clear e1 g1 he HM
    go_enter Tryd.func10, Tryd.ntmps10
    go_upto_region 1 with fail
    (try rw [E1.out])
    go_wp2_with (refine load_midG (by rfl) _ _ rfl _ _ rfl _ _ hr Tryd.underlying28 rfl (by kernel_rfl) ?_)
    refine HX.out.mono ?_
    rintro e w2 ⟨rfl, b2⟩
    clear hr
    go_wp2
    go_ret2
    exact ⟨rfl, b1.trans (b2.mono b1.size)⟩
  | true =>
    rw [hmy] at HM
    have HX := Lib.hid HM
    have hl64 := mayM_small hmy
    rw [if_pos rfl]
    have HN := Lib.hid hm
    have HOE := Lib.hid hoe
    have HSTR := Lib.hid (encM_str m es)
    have hz1 : (str (putL m.nums)).size ≤ 90 := by rw [str_size]; exact putL_len m.nums
    have hz2 : (str (putL [(es.length : Int)] ++ entsL es)).size ≤ 4000 := by
      have := entsL_len es
      have := putL_len [(es.length : Int)]
      rw [List.length_singleton] at this
      rw [str_size, List.length_append]; omega
    have hz3 : (str (putL (m.ord.nums ++ m.ans.nums))).size ≤ 80 := by rw [str_size]; exact putL_len (m.ord.nums ++ m.ans.nums)
    clear e1 g1 he HM hmy hm hoe
    go_enter Tryd.func10, Tryd.ntmps10
    go_upto_region 1 with fail
    (try rw [E1.out])
    go_wp2_with (refine load_midG (by rfl) _ _ rfl _ _ rfl _ _ hr Tryd.underlying28 rfl (by kernel_rfl) ?_)
    refine HX.out.mono ?_
    rintro e w2 ⟨rfl, b2⟩
    clear hr
    have s2 := b2.size
    have G2 := (b2.block w.heap.size (by omega)).trans G1.out
    have HE2 := Lib.hid (HE1.out.below b2)
    go_upto_region 3 with fail
    go_cut [6, 7] (fun a b wx => ∃ p q, a = .pointer (some ⟨p, 0, none⟩) ∧ b = .pointer (some ⟨q, 0, none⟩) ∧ Two (ordCells m.ord) (ansCells m.ans) w2 wx p q)
    case first =>
      obtain ⟨wA, eA, bA, sA, koA, kaA⟩ : ∃ wA, ((w2.alloc (.cells #[.int .i64 0, .int .i64 0, .int .i64 0, .int .i64 0, .int .i64 0] 24)).alloc (.cells #[.int .i64 0, .int .i64 0, .int .i64 0] 26)).drew = wA ∧ Below w2.heap.size w2 wA ∧ wA.heap.size = w2.heap.size + 2 ∧ wA.heap[w2.heap.size]? = some (.cells #[.int .i64 0, .int .i64 0, .int .i64 0, .int .i64 0, .int .i64 0] 24 (0, 0)) ∧ wA.heap[w2.heap.size + 1]? = some (.cells #[.int .i64 0, .int .i64 0, .int .i64 0] 26 (0, 0)) := by
        obtain ⟨x1, f1, d1, z1, k1⟩ := boxed w2 #[.int .i64 0, .int .i64 0, .int .i64 0, .int .i64 0, .int .i64 0] 24
        obtain ⟨x2, f2, d2, z2, k2⟩ := boxed x1 #[.int .i64 0, .int .i64 0, .int .i64 0] 26
        rw [z1] at k2
        exact ⟨x2.drew, by rw [f1, f2], (d1.trans (d2.mono d1.size)).drew, by show x2.heap.size = _; omega, (d2.block _ (by omega)).trans k1, k2⟩
      have EA := Lib.hid eA
      have KOA := Lib.hid koA
      have KAA := Lib.hid kaA
      have GA : wA.heap[w.heap.size]? = some (.cells (mailCells m (.slice ae es.length ce)) 28 (0, 0)) := (bA.block _ (by omega)).trans G2
      clear eA koA kaA
      obtain ⟨wB, eB, bB, sB, koB, kaB⟩ : ∃ wA, ((w2.alloc (.cells #[.int .i64 0, .int .i64 0, .int .i64 0] 26)).alloc (.cells #[.int .i64 0, .int .i64 0, .int .i64 0, .int .i64 0, .int .i64 0] 24)).drew = wA ∧ Below w2.heap.size w2 wA ∧ wA.heap.size = w2.heap.size + 2 ∧ wA.heap[w2.heap.size + 1]? = some (.cells #[.int .i64 0, .int .i64 0, .int .i64 0, .int .i64 0, .int .i64 0] 24 (0, 0)) ∧ wA.heap[w2.heap.size]? = some (.cells #[.int .i64 0, .int .i64 0, .int .i64 0] 26 (0, 0)) := by
        obtain ⟨x1, f1, d1, z1, k1⟩ := boxed w2 #[.int .i64 0, .int .i64 0, .int .i64 0] 26
        obtain ⟨x2, f2, d2, z2, k2⟩ := boxed x1 #[.int .i64 0, .int .i64 0, .int .i64 0, .int .i64 0, .int .i64 0] 24
        rw [z1] at k2
        exact ⟨x2.drew, by rw [f1, f2], (d1.trans (d2.mono d1.size)).drew, by show x2.heap.size = _; omega, k2, (d2.block _ (by omega)).trans k1⟩
      have EB := Lib.hid eB
      have KOB := Lib.hid koB
      have KAB := Lib.hid kaB
      have GB : wB.heap[w.heap.size]? = some (.cells (mailCells m (.slice ae es.length ce)) 28 (0, 0)) := (bB.block _ (by omega)).trans G2
      clear eB koB kaB
      refine wp_region_held_drew (S := fun w' => w'.heap[w.heap.size]? = some (.cells (mailCells m (.slice ae es.length ce)) 28 (0, 0))) (by kernel_rfl) G2 (fun hHeld => ?_)
      refine' wpAnyH_take (i := 0) (oi := { dst := some 13, op := Op.fieldAddr 28 (Operand.tmp 2) 10, type := 0, pos := "ref.go:98", after := #[], guard := none }) rfl (by kernel_rfl) (by kernel_rfl) (by kernel_rfl) (fun _ _ _ h => h) (Or.inl ⟨by rfl, ?_⟩) (by assumption) ?_
      rotate_left
      · (intro w hSw; (try dsimp only at hSw); go_simp; try with_reducible rfl)
      try go_frame
      refine' wpAnyH_take (i := 1) (oi := { dst := some 14, op := Op.load 24 (Operand.tmp 13), type := 24, pos := "ref.go:98", after := #[{ on := 0, ground := Ground.data }], guard := none }) (v := _) rfl (by kernel_rfl) (by kernel_rfl) (by kernel_rfl) (fun _ _ _ h => h) (yieldsIf_load_mid (by rfl) _ _ rfl _ _ rfl _ _ (fun _ h => ord_range h) Tryd.underlying24 rfl (by kernel_rfl)) (by assumption) ?_
      try simp only [Act.put, List.setIfInBounds_toArray, List.set_cons_zero, List.set_cons_succ, Array.toArray_toList]
      refine' wpAnyH_take (i := 2) (oi := { dst := some 15, op := Op.fieldAddr 28 (Operand.tmp 2) 11, type := 0, pos := "ref.go:98", after := #[{ on := 6, ground := Ground.gcOnly Departure.lateStores }], guard := none }) rfl (by kernel_rfl) (by kernel_rfl) (by kernel_rfl) (fun _ _ _ h => h) (Or.inl ⟨by rfl, ?_⟩) (by assumption) ?_
      rotate_left
      · (intro w hSw; (try dsimp only at hSw); go_simp; try with_reducible rfl)
      try go_frame
      refine' wpAnyH_take (i := 3) (oi := { dst := some 16, op := Op.load 26 (Operand.tmp 15), type := 26, pos := "ref.go:98", after := #[{ on := 2, ground := Ground.data }, { on := 6, ground := Ground.gcOnly Departure.lateStores }], guard := none }) (v := _) rfl (by kernel_rfl) (by kernel_rfl) (by kernel_rfl) (fun _ _ _ h => h) (yieldsIf_load_mid (by rfl) _ _ rfl _ _ rfl _ _ (fun _ h => ans_range h) Tryd.underlying26 rfl (by kernel_rfl)) (by assumption) ?_
      try simp only [Act.put, List.setIfInBounds_toArray, List.set_cons_zero, List.set_cons_succ, Array.toArray_toList]
      refine wpAnyH_ready (rs := [4, 5]) (by kernel_rfl) (by simp) (AllReadyH.cons (o := { dst := some 6, op := Op.alloc 24, type := 0, pos := "ref.go:98", after := #[], guard := none }) rfl (fun K hK => ?_) (AllReadyH.cons (o := { dst := some 7, op := Op.alloc 26, type := 0, pos := "ref.go:98", after := #[], guard := none }) rfl (fun K hK => ?_) AllReadyH.nil))
      · try skip
        go_simp
        refine hK.out _ _ (keep_alloc hHeld) (fun hHeld => ?_)
        clear hK K
        try go_frame
        refine wpAnyH_ready (rs := [5]) (by kernel_rfl) (by simp) (AllReadyH.cons (o := { dst := some 7, op := Op.alloc 26, type := 0, pos := "ref.go:98", after := #[], guard := none }) rfl (fun K hK => ?_) AllReadyH.nil)
        go_simp
        refine hK.out _ _ (keep_alloc hHeld) (fun hHeld => ?_)
        clear hK K
        try go_frame
        rw [EA.out]
        replace hHeld := GA
        refine wpAnyH_ready (rs := [6]) (by kernel_rfl) (by simp) (AllReadyH.cons (o := { dst := none, op := Op.store 24 (Operand.tmp 6) (Operand.tmp 14), type := 0, pos := "ref.go:98", after := #[{ on := 4, ground := Ground.data }, { on := 1, ground := Ground.data }, { on := 0, ground := Ground.phase }, { on := 1, ground := Ground.phase }, { on := 2, ground := Ground.textOnly Departure.lateStores }, { on := 3, ground := Ground.textOnly Departure.lateStores }, { on := 4, ground := Ground.phase }, { on := 5, ground := Ground.phase }], guard := none }) rfl (fun K hK => ?_) AllReadyH.nil)
        rw [if_pos (by rfl)]
        refine wp_store_row _ _ _ rfl (w2.heap.size) (ordCells m.ord) rfl rfl _ _ (KOA.out) (by kernel_rfl) rfl (ord_one' m.ord) ?_
        refine hK.out _ _ ((setRow_other _ _ _ _ (by omega)).trans hHeld) (fun hHeld => ?_)
        clear hK K
        try go_frame
        refine wpAnyH_ready (rs := [7]) (by kernel_rfl) (by simp) (AllReadyH.cons (o := { dst := none, op := Op.store 26 (Operand.tmp 7) (Operand.tmp 16), type := 0, pos := "ref.go:98", after := #[{ on := 5, ground := Ground.data }, { on := 3, ground := Ground.data }, { on := 6, ground := Ground.chain }, { on := 0, ground := Ground.phase }, { on := 1, ground := Ground.phase }, { on := 2, ground := Ground.phase }, { on := 3, ground := Ground.phase }, { on := 4, ground := Ground.phase }, { on := 5, ground := Ground.phase }, { on := 6, ground := Ground.phase }], guard := none }) rfl (fun K hK => ?_) AllReadyH.nil)
        rw [if_pos (by rfl)]
        refine wp_store_row _ _ _ rfl (w2.heap.size + 1) (ansCells m.ans) rfl rfl _ _ ((setRow_other _ _ _ _ (by omega)).trans KAA.out) (by kernel_rfl) rfl (ans_one m.ans) ?_
        refine hK.out _ _ ((setRow_other _ _ _ _ (by omega)).trans hHeld) (fun hHeld => ?_)
        clear hK K
        try go_frame
        refine wpAnyH_done (by kernel_rfl) ?_ _
        go_wp2_with fail
        go_meet
        exact ⟨_, _, rfl, rfl, two_of bA (by omega) (by omega) (by omega) KOA.out KAA.out⟩
      · try skip
        go_simp
        refine hK.out _ _ (keep_alloc hHeld) (fun hHeld => ?_)
        clear hK K
        try go_frame
        refine wpAnyH_ready (rs := [4]) (by kernel_rfl) (by simp) (AllReadyH.cons (o := { dst := some 6, op := Op.alloc 24, type := 0, pos := "ref.go:98", after := #[], guard := none }) rfl (fun K hK => ?_) AllReadyH.nil)
        go_simp
        refine hK.out _ _ (keep_alloc hHeld) (fun hHeld => ?_)
        clear hK K
        try go_frame
        rw [EB.out]
        replace hHeld := GB
        refine wpAnyH_ready (rs := [6]) (by kernel_rfl) (by simp) (AllReadyH.cons (o := { dst := none, op := Op.store 24 (Operand.tmp 6) (Operand.tmp 14), type := 0, pos := "ref.go:98", after := #[{ on := 4, ground := Ground.data }, { on := 1, ground := Ground.data }, { on := 0, ground := Ground.phase }, { on := 1, ground := Ground.phase }, { on := 2, ground := Ground.textOnly Departure.lateStores }, { on := 3, ground := Ground.textOnly Departure.lateStores }, { on := 4, ground := Ground.phase }, { on := 5, ground := Ground.phase }], guard := none }) rfl (fun K hK => ?_) AllReadyH.nil)
        rw [if_pos (by rfl)]
        refine wp_store_row _ _ _ rfl (w2.heap.size + 1) (ordCells m.ord) rfl rfl _ _ (KOB.out) (by kernel_rfl) rfl (ord_one' m.ord) ?_
        refine hK.out _ _ ((setRow_other _ _ _ _ (by omega)).trans hHeld) (fun hHeld => ?_)
        clear hK K
        try go_frame
        refine wpAnyH_ready (rs := [7]) (by kernel_rfl) (by simp) (AllReadyH.cons (o := { dst := none, op := Op.store 26 (Operand.tmp 7) (Operand.tmp 16), type := 0, pos := "ref.go:98", after := #[{ on := 5, ground := Ground.data }, { on := 3, ground := Ground.data }, { on := 6, ground := Ground.chain }, { on := 0, ground := Ground.phase }, { on := 1, ground := Ground.phase }, { on := 2, ground := Ground.phase }, { on := 3, ground := Ground.phase }, { on := 4, ground := Ground.phase }, { on := 5, ground := Ground.phase }, { on := 6, ground := Ground.phase }], guard := none }) rfl (fun K hK => ?_) AllReadyH.nil)
        rw [if_pos (by rfl)]
        refine wp_store_row _ _ _ rfl (w2.heap.size) (ansCells m.ans) rfl rfl _ _ ((setRow_other _ _ _ _ (by omega)).trans KAB.out) (by kernel_rfl) rfl (ans_one m.ans) ?_
        refine hK.out _ _ ((setRow_other _ _ _ _ (by omega)).trans hHeld) (fun hHeld => ?_)
        clear hK K
        try go_frame
        refine wpAnyH_done (by kernel_rfl) ?_ _
        go_wp2_with fail
        go_meet
        exact ⟨_, _, rfl, rfl, two_of bB (by omega) (by omega) (by omega) KOB.out KAB.out⟩
    case rest =>
      obtain ⟨p, q, rfl, rfl, bT, hp1, hq1, kp, kq⟩ := hcut
      have KP := Lib.hid kp
      have KQ := Lib.hid kq
      have sT := bT.size
      have B3 := b1.trans ((b2.trans (bT.mono s2)).mono b1.size)
      have G3 := (bT.block w.heap.size (by omega)).trans G2
      have HG3 := Lib.hid G3
      have HE3 := Lib.hid (HE2.out.below bT)
      have ltp := (Array.getElem?_eq_some_iff.1 kp).1
      have ltq := (Array.getElem?_eq_some_iff.1 kq).1
      obtain ⟨w4, e4, b4, s4, n4, k4⟩ := built wc m.nums
      have E4 := Lib.hid (show wc.alloc (.cells #[.int .i64 m.kind, .int .i64 m.frm, .int .i64 m.dst, .int .i64 m.stream, .int .i64 m.epoch, .int .i64 m.view, .int .i64 m.base, .int .i64 m.length, .int .i64 m.stamp] 3) = w4 from e4)
      have HI := Lib.hid (refInts_any (cap := 9) m.nums (by simp [MNum.nums]) HN.out.1 (g := wc.heap.size) (by omega) k4)
      have c0 := msg_cell G3 0 (.int .i64 m.kind) rfl
      have c1 := msg_cell G3 1 (.int .i64 m.frm) rfl
      have c2 := msg_cell G3 2 (.int .i64 m.dst) rfl
      have c3 := msg_cell G3 3 (.int .i64 m.stream) rfl
      have c4 := msg_cell G3 4 (.int .i64 m.epoch) rfl
      have c5 := msg_cell G3 5 (.int .i64 m.view) rfl
      have c6 := msg_cell G3 6 (.int .i64 m.base) rfl
      have c7 := msg_cell G3 7 (.int .i64 m.length) rfl
      have c8 := msg_cell G3 8 (.int .i64 m.stamp) rfl
      clear kp kq G2 G3 e4 n4 k4
      go_wp2_with fail
      rw [E4.out]
      refine HI.out.mono ?_
      rintro e w5 ⟨rfl, b5⟩
      clear c0 c1 c2 c3 c4 c5 c6 c7 c8
      have b35 := b4.trans (b5.mono b4.size)
      have s5 := b35.size
      have B5 := B3.trans (b35.mono B3.size)
      have c9 := msg_cell ((b35.block w.heap.size (by omega)).trans HG3.out) 9 (.slice ae es.length ce) rfl
      have HEN := Lib.hid (refEntries_any (HE3.out.below b35) HOE.out (by omega))
      generalize str (putL m.nums) = t1 at *
      generalize str (putL [(es.length : Int)] ++ entsL es) = t2 at *
      have ha1 : ¬ 9223372036854775807 < t1.size + t2.size := by omega
      go_wp2_with fail
      refine HEN.out.mono ?_
      rintro e w6 ⟨rfl, b6⟩
      clear c9
      have b36 := b35.trans (b6.mono s5)
      have s6 := b36.size
      have B6 := B3.trans (b36.mono B3.size)
      obtain ⟨o0, o1, o2, o3, o4⟩ := ord_cells ((b36.block p ltp).trans KP.out)
      obtain ⟨a0, a1, a2⟩ := ans_cells ((b36.block q ltq).trans KQ.out)
      obtain ⟨w7, e7, b7, s7, n7, k7⟩ := built w6 (m.ord.nums ++ m.ans.nums)
      have E7 := Lib.hid (show w6.alloc (.cells #[.int .i64 m.ord.id, .int .i64 m.ord.stream, .int .i64 m.ord.expect, .int .i64 m.ord.kind, .int .i64 m.ord.arg, .int .i64 m.ans.id, .int .i64 m.ans.code, .int .i64 m.ans.ver] 3) = w7 from e7)
      have HI2 := Lib.hid (refInts_any (cap := 8) (m.ord.nums ++ m.ans.nums) (by simp [Ord.nums, Ans.nums]) (fun x hx => by rcases List.mem_append.1 hx with h | h; exact HN.out.2.1 x h; exact HN.out.2.2 x h) (g := w6.heap.size) (by omega) k7)
      generalize str (putL (m.ord.nums ++ m.ans.nums)) = t3 at *
      have ha2 : ¬ 9223372036854775807 < (t1 ++ t2).size + t3.size := by rw [ByteArray.size_append]; omega
      have ha3 : ¬ 9223372036854775807 < t1.size + t2.size + t3.size := by omega
      clear e7 n7 k7
      go_wp2_with fail
      rw [E7.out]
      refine HI2.out.mono ?_
      rintro e w8 ⟨rfl, b8⟩
      clear o0 o1 o2 o3 o4 a0 a1 a2
      go_wp2
      go_ret2
      rw [HSTR.out]
      exact ⟨rfl, B6.trans ((b7.trans (b8.mono b7.size)).mono B6.size)⟩
end Go.Proofs.YtnekpehgaojkaaaDoor
