/- The reference of layer 10: Encode. -/
import Derived.Test.YtalilifegclelaaC10w
namespace Go.Proofs.Ytalilifegclelaa
open Go.RowKit

theorem refInts1 (w : World) (m : Int) (h : -9223372036854775808 ≤ m ∧ m ≤ 9223372036854775807) :
    Calls Try.prog 27 #[.slice (some ⟨w.heap.size, 0, none⟩) 1 1] (w.alloc (.cells #[.int .i64 m] 3)) fun e w' => e = .returned (.string (str (putL [m]))) ∧ Below w.heap.size w w' := by
  obtain ⟨w1, e1, b1, s1, n1, c1⟩ := built w [m]
  have H := refInts_any (cap := 1) [m] (by simp) (fun n hn => by simp at hn; subst hn; exact h) (g := w.heap.size) (by omega) c1
  rw [show w.alloc (.cells #[.int .i64 m] 3) = w1 from e1]
  exact H.mono fun e w' ⟨he, hb⟩ => ⟨he, b1.trans (hb.mono b1.size)⟩
theorem refInts1b {w : World} {g : Nat} (m : Int) (h : -9223372036854775808 ≤ m ∧ m ≤ 9223372036854775807) (hc : w.cell? ⟨g, 0, none⟩ = some (.int .i64 m)) :
    Calls Try.prog 27 #[.slice (some ⟨g, 0, none⟩) 1 1] w fun e w' => e = .returned (.string (str (putL [m]))) ∧ Below w.heap.size w w' :=
  refInts_any (cap := 1) [m] (by simp) (fun n hn => by simp at hn; subst hn; exact h) (g := g) (World.block_lt_of_cell? w ⟨g, 0, none⟩ hc) (fun j hj => by
    have : j = 0 := by simp at hj; exact hj
    subst this
    exact hc)
theorem refInts2 (w : World) (x : Spt) (h : SptOk x) :
    Calls Try.prog 27 #[.slice (some ⟨w.heap.size, 0, none⟩) 2 2] (w.alloc (.cells #[.int .i64 x.stream, .int .i64 x.index] 3)).drew fun e w' => e = .returned (.string (str (putL x.nums))) ∧ Below w.heap.size w w' := by
  obtain ⟨w1, e1, b1, s1, n1, c1⟩ := built w x.nums
  have H := refInts_any (w := w1.drew) (cap := 2) x.nums (by simp [Spt.nums]) h (g := w.heap.size) (by show w.heap.size < w1.heap.size; omega) c1
  rw [show w.alloc (.cells #[.int .i64 x.stream, .int .i64 x.index] 3) = w1 from e1]
  exact H.mono fun e w' ⟨he, hb⟩ => ⟨he, b1.drew.trans (hb.mono b1.drew.size)⟩
theorem refInts6 (w : World) (n : RNum) (h : RNumOk n) :
    Calls Try.prog 27 #[.slice (some ⟨w.heap.size, 0, none⟩) 6 6] (w.alloc (.cells #[.int .i64 n.kind, .int .i64 n.stream, .int .i64 n.epoch, .int .i64 n.view, .int .i64 n.frm, .int .i64 n.length] 3)).drew fun e w' => e = .returned (.string (str (putL n.nums))) ∧ Below w.heap.size w w' := by
  obtain ⟨w1, e1, b1, s1, n1, c1⟩ := built w n.nums
  have H := refInts_any (w := w1.drew) (cap := 6) n.nums (by simp [RNum.nums]) h (g := w.heap.size) (by show w.heap.size < w1.heap.size; omega) c1
  rw [show w.alloc (.cells #[.int .i64 n.kind, .int .i64 n.stream, .int .i64 n.epoch, .int .i64 n.view, .int .i64 n.frm, .int .i64 n.length] 3) = w1 from e1]
  exact H.mono fun e w' ⟨he, hb⟩ => ⟨he, b1.drew.trans (hb.mono b1.drew.size)⟩

/-- Six ints and one: built ahead of the call, in either order. -/
theorem refInts6b (w : World) (n : RNum) (m : Int) (h : RNumOk n) :
    Calls Try.prog 27 #[.slice (some ⟨w.heap.size, 0, none⟩) 6 6] ((w.alloc (.cells #[.int .i64 n.kind, .int .i64 n.stream, .int .i64 n.epoch, .int .i64 n.view, .int .i64 n.frm, .int .i64 n.length] 3)).alloc (.cells #[.int .i64 m] 3)).drew fun e w' => e = .returned (.string (str (putL n.nums))) ∧ Below w.heap.size w w' ∧ w'.cell? ⟨w.heap.size + 1, 0, none⟩ = some (.int .i64 m) := by
  obtain ⟨w1, e1, b1, s1, n1, c1⟩ := built w n.nums
  rw [show w.alloc (.cells #[.int .i64 n.kind, .int .i64 n.stream, .int .i64 n.epoch, .int .i64 n.view, .int .i64 n.frm, .int .i64 n.length] 3) = w1 from e1]
  have b2 : Below w1.heap.size w1 (w1.alloc (.cells #[.int .i64 m] 3)).drew := ((Below.refl _ _).alloc (Nat.le_refl _) _).drew
  have hc : (w1.alloc (.cells #[.int .i64 m] 3)).drew.cell? ⟨w.heap.size + 1, 0, none⟩ = some (.int .i64 m) := by
    rw [← s1]; exact (new_cell w1 _ _).1
  have hz : (w1.alloc (.cells #[.int .i64 m] 3)).drew.heap.size = w1.heap.size + 1 := by show (w1.alloc _).heap.size = _; simp
  have H := refInts_any (w := (w1.alloc (.cells #[.int .i64 m] 3)).drew) (cap := 6) n.nums (by simp [RNum.nums]) h (g := w.heap.size) (by omega) (fun j hj => (b2.cell (p := ⟨w.heap.size, 0 + j, none⟩) (by show w.heap.size < w1.heap.size; omega)).trans (c1 j hj))
  exact H.mono fun e w' ⟨he, hb⟩ => ⟨he, b1.trans ((b2.trans (hb.mono b2.size)).mono b1.size), (hb.cell (p := ⟨w.heap.size + 1, 0, none⟩) (by show w.heap.size + 1 < _; omega)).trans hc⟩
theorem refInts6c (w : World) (n : RNum) (m : Int) (h : RNumOk n) :
    Calls Try.prog 27 #[.slice (some ⟨w.heap.size + 1, 0, none⟩) 6 6] ((w.alloc (.cells #[.int .i64 m] 3)).alloc (.cells #[.int .i64 n.kind, .int .i64 n.stream, .int .i64 n.epoch, .int .i64 n.view, .int .i64 n.frm, .int .i64 n.length] 3)).drew fun e w' => e = .returned (.string (str (putL n.nums))) ∧ Below w.heap.size w w' ∧ w'.cell? ⟨w.heap.size, 0, none⟩ = some (.int .i64 m) := by
  have hz : (w.alloc (.cells #[.int .i64 m] 3)).heap.size = w.heap.size + 1 := by simp
  have b1 : Below w.heap.size w (w.alloc (.cells #[.int .i64 m] 3)) := (Below.refl _ _).alloc (Nat.le_refl _) _
  have hc := (new_cell w (.int .i64 m) 3).1
  have H := refInts6 (w.alloc (.cells #[.int .i64 m] 3)) n h
  rw [hz] at H
  exact H.mono fun e w' ⟨he, hb⟩ => ⟨he, b1.trans ((hb.mono (by omega))), (hb.cell (p := ⟨w.heap.size, 0, none⟩) (by show w.heap.size < _; omega)).trans hc⟩
set_option maxRecDepth 100000 in
set_option maxHeartbeats 4000000 in
theorem refEncR_no {B : Nat} {w : World} {n : RNum} {ae af : Option Addr} {ce cf : Nat} {es : List Ent} {fs : List Spt} (he : EntsAt B w (.slice ae es.length ce) es) (hf : SptsAt B w (.slice af fs.length cf) fs) (hl : es.length ≤ 1000000) (hlf : fs.length ≤ 1000000) (h : mayR n es fs = false) :
    Calls Try.prog 11 #[.agg #[.int .i64 n.kind, .int .i64 n.stream, .int .i64 n.epoch, .int .i64 n.view, .int .i64 n.frm, .int .i64 n.length, .slice ae es.length ce, .slice af fs.length cf]] w fun e w' => e = .returned (.tuple #[.string ⟨#[]⟩, .int .i64 2]) ∧ Below w.heap.size w w' := by
  obtain ⟨w1, e1, b1, s1, h1⟩ := boxed w (recCells n (.slice ae es.length ce) (.slice af fs.length cf)) 25
  have E1 := Lib.hid (show w.alloc (.cells #[.int .i64 n.kind, .int .i64 n.stream, .int .i64 n.epoch, .int .i64 n.view, .int .i64 n.frm, .int .i64 n.length, .slice ae es.length ce, .slice af fs.length cf] 25) = w1 from e1)
  obtain ⟨c0, c1, c2, c3, c4, c5, c6, c7⟩ := rec_cells h1
  have HM := refMayR_any n (he.below b1) (hf.below b1) hl hlf
  rw [h] at HM
  have HM := Lib.hid HM
  clear e1 h1 he hf h
  go_enter Try.func11, Try.ntmps11
  go_wp2_with fail
  rw [E1.out]
  refine HM.out.mono ?_
  rintro e w2 ⟨rfl, b2⟩
  go_wp2
  go_ret2
  exact ⟨rfl, b1.trans (b2.mono b1.size)⟩

theorem str_spts (a : List UInt8) (fs : List Spt) (k : Nat) (hk : k < fs.length) : str (a ++ sptsL (fs.take k)) ++ str (putL fs[k].nums) = str (a ++ sptsL (fs.take (k + 1))) := by
  rw [sptsL_take fs k hk, str_append, List.append_assoc]
/-- What stands ahead of the spots. -/
def encH (n : RNum) (es : List Ent) (fs : List Spt) : List UInt8 := putL n.nums ++ putL [(es.length : Int)] ++ entsL es ++ putL [(fs.length : Int)]
theorem encH_str (n : RNum) (es : List Ent) (fs : List Spt) : str (putL n.nums) ++ str (putL [(es.length : Int)] ++ entsL es) ++ str (putL [(fs.length : Int)]) = str (encH n es fs) := by
  unfold encH
  rw [str_append, str_append, ← List.append_assoc]
/-- The eight cells of a record. -/
def recAt (w : World) (g : Nat) (n : RNum) (ve vf : Value) : Prop :=
  w.cell? ⟨g, 0, none⟩ = some (.int .i64 n.kind) ∧ w.cell? ⟨g, 1, none⟩ = some (.int .i64 n.stream) ∧ w.cell? ⟨g, 2, none⟩ = some (.int .i64 n.epoch) ∧ w.cell? ⟨g, 3, none⟩ = some (.int .i64 n.view) ∧ w.cell? ⟨g, 4, none⟩ = some (.int .i64 n.frm) ∧ w.cell? ⟨g, 5, none⟩ = some (.int .i64 n.length) ∧ w.cell? ⟨g, 6, none⟩ = some ve ∧ w.cell? ⟨g, 7, none⟩ = some vf
theorem recAt.below {w w' : World} {g : Nat} {n : RNum} {ve vf : Value} (h : recAt w g n ve vf) (hg : g < w.heap.size) (hb : Below w.heap.size w w') : recAt w' g n ve vf := by
  obtain ⟨h0, h1, h2, h3, h4, h5, h6, h7⟩ := h
  exact ⟨(hb.cell (p := ⟨g, 0, none⟩) hg).trans h0, (hb.cell (p := ⟨g, 1, none⟩) hg).trans h1, (hb.cell (p := ⟨g, 2, none⟩) hg).trans h2, (hb.cell (p := ⟨g, 3, none⟩) hg).trans h3, (hb.cell (p := ⟨g, 4, none⟩) hg).trans h4, (hb.cell (p := ⟨g, 5, none⟩) hg).trans h5, (hb.cell (p := ⟨g, 6, none⟩) hg).trans h6, (hb.cell (p := ⟨g, 7, none⟩) hg).trans h7⟩

theorem encH_len (n : RNum) (es : List Ent) (fs : List Spt) : (encH n es fs).length ≤ 80 + 60 * es.length := by
  have e1 := putL_len n.nums
  have e2 := putL_len [(es.length : Int)]
  have e3 := putL_len [(fs.length : Int)]
  have e4 := entsL_len es
  have e6 : n.nums.length = 6 := rfl
  unfold encH
  simp only [List.length_append, List.length_singleton] at *
  omega
theorem encH_all (n : RNum) (es : List Ent) (fs : List Spt) : encH n es fs ++ sptsL fs = encR n es fs := rfl
theorem spBox {w w' : World} {b o g : Nat} {x : Spt} {v : Value} (hb : Below w.heap.size w w') (h1 : b < w.heap.size) (h2 : g < w.heap.size)
    (h : w.cell? ⟨b, o, none⟩ = some (.int .i64 x.stream) ∧ w.cell? ⟨b, o + 1, none⟩ = some (.int .i64 x.index) ∧ w.cell? ⟨g, 7, none⟩ = some v) :
    w'.cell? ⟨b, o, none⟩ = some (.int .i64 x.stream) ∧ w'.cell? ⟨b, o + 1, none⟩ = some (.int .i64 x.index) ∧ w'.cell? ⟨g, 7, none⟩ = some v :=
  ⟨(hb.cell (p := ⟨b, o, none⟩) h1).trans h.1, (hb.cell (p := ⟨b, o + 1, none⟩) h1).trans h.2.1, (hb.cell (p := ⟨g, 7, none⟩) h2).trans h.2.2⟩
theorem alloc_cell (w : World) (m : Int) : ∃ w1, w.alloc (.cells #[.int .i64 m] 3) = w1 ∧ Below w.heap.size w w1 ∧ w1.cell? ⟨w.heap.size, 0, none⟩ = some (.int .i64 m) :=
  ⟨_, rfl, (Below.refl _ _).alloc (Nat.le_refl _) _, (new_cell _ _ _).1⟩
theorem alloc_call {Q : Ending → World → Prop} {f : Nat} {a : Array Value} (w : World) (m : Int) (h : Calls Try.prog f a (w.alloc (.cells #[.int .i64 m] 3)) Q) : ∃ w1, w.alloc (.cells #[.int .i64 m] 3) = w1 ∧ Hid (Calls Try.prog f a w1 Q) :=
  ⟨_, rfl, Lib.hid h⟩
set_option maxRecDepth 100000 in
set_option maxHeartbeats 8000000 in
theorem refEncR_yes {B : Nat} {w : World} {n : RNum} {ae af : Option Addr} {ce cf : Nat} {es : List Ent} {fs : List Spt} (he : EntsAt B w (.slice ae es.length ce) es) (hf : SptsAt B w (.slice af fs.length cf) fs) (hn : RNumOk n) (hoe : EntsOk es) (hof : SptsOk fs) (h : mayR n es fs = true) :
    Calls Try.prog 11 #[.agg #[.int .i64 n.kind, .int .i64 n.stream, .int .i64 n.epoch, .int .i64 n.view, .int .i64 n.frm, .int .i64 n.length, .slice ae es.length ce, .slice af fs.length cf]] w fun e w' => e = .returned (.tuple #[.string (str (encR n es fs)), .int .i64 0]) ∧ Below w.heap.size w w' := by
  obtain ⟨hl, hlf⟩ := may_small h
  obtain ⟨w1, e1, b1, s1, h1⟩ := boxed w (recCells n (.slice ae es.length ce) (.slice af fs.length cf)) 25
  have E1 := Lib.hid (show w.alloc (.cells #[.int .i64 n.kind, .int .i64 n.stream, .int .i64 n.epoch, .int .i64 n.view, .int .i64 n.frm, .int .i64 n.length, .slice ae es.length ce, .slice af fs.length cf] 25) = w1 from e1)
  have R1 := Lib.hid (show recAt w1 w.heap.size n (.slice ae es.length ce) (.slice af fs.length cf) from rec_cells h1)
  obtain ⟨c0, c1, c2, c3, c4, c5, c6, c7⟩ := R1.out
  have HM := refMayR_any n (he.below b1) (hf.below b1) (by omega) (by omega)
  rw [h] at HM
  have HM := Lib.hid HM
  have HE := Lib.hid (he.below b1)
  have HF := Lib.hid (hf.below b1)
  have HOE := Lib.hid hoe
  have HOF := Lib.hid hof
  have HI1 := Lib.hid (fun (w : World) (g : Nat) (hc : w.cell? ⟨g, 0, none⟩ = some (.int .i64 (fs.length : Int))) => refInts1b (fs.length : Int) (by omega) hc)
  have HI1n := Lib.hid (fun w => refInts1 w (fs.length : Int) (by omega))
  have HN := Lib.hid hn
  have hz1 : (str (putL n.nums)).size ≤ 60 := by rw [str_size]; exact putL_len n.nums
  have hz2 : (str (putL [(es.length : Int)] ++ entsL es)).size ≤ 4000 := by
    have := entsL_len es
    have := putL_len [(es.length : Int)]
    rw [List.length_singleton] at this
    rw [str_size, List.length_append]; omega
  have hz3 : (str (putL [(fs.length : Int)])).size ≤ 10 := by rw [str_size]; exact putL_len [(fs.length : Int)]
  have HS := Lib.hid (encH_str n es fs)
  clear e1 h1 he hf h hn hoe hof
  go_enter Try.func11, Try.ntmps11
  go_wp2_with fail
  rw [E1.out]
  refine HM.out.mono ?_
  rintro e w2 ⟨rfl, b2⟩
  clear c0 c1 c2 c3 c4 c5 c6 c7
  have s2 := b2.size
  have R2 := Lib.hid (R1.out.below (by omega) b2)
  obtain ⟨c0, c1, c2, c3, c4, c5, c6, c7⟩ := R2.out
  have HE2 := Lib.hid (HE.out.below b2)
  obtain ⟨v6, e6, H6⟩ : ∃ v6, (w2.alloc (.cells #[.int .i64 n.kind, .int .i64 n.stream, .int .i64 n.epoch, .int .i64 n.view, .int .i64 n.frm, .int .i64 n.length] 3)).drew = v6 ∧ Hid (Calls Try.prog 27 #[.slice (some ⟨w2.heap.size, 0, none⟩) 6 6] v6 fun e w' => e = .returned (.string (str (putL n.nums))) ∧ Below w2.heap.size w2 w') := ⟨_, rfl, Lib.hid (refInts6 w2 n HN.out)⟩
  obtain ⟨v6b, e6b, H6b⟩ : ∃ v6, ((w2.alloc (.cells #[.int .i64 n.kind, .int .i64 n.stream, .int .i64 n.epoch, .int .i64 n.view, .int .i64 n.frm, .int .i64 n.length] 3)).alloc (.cells #[.int .i64 (fs.length : Int)] 3)).drew = v6 ∧ Hid (Calls Try.prog 27 #[.slice (some ⟨w2.heap.size, 0, none⟩) 6 6] v6 fun e w' => e = .returned (.string (str (putL n.nums))) ∧ Below w2.heap.size w2 w' ∧ w'.cell? ⟨w2.heap.size + 1, 0, none⟩ = some (.int .i64 (fs.length : Int))) := ⟨_, rfl, Lib.hid (refInts6b w2 n (fs.length : Int) HN.out)⟩
  obtain ⟨v6c, e6c, H6c⟩ : ∃ v6, ((w2.alloc (.cells #[.int .i64 (fs.length : Int)] 3)).alloc (.cells #[.int .i64 n.kind, .int .i64 n.stream, .int .i64 n.epoch, .int .i64 n.view, .int .i64 n.frm, .int .i64 n.length] 3)).drew = v6 ∧ Hid (Calls Try.prog 27 #[.slice (some ⟨w2.heap.size + 1, 0, none⟩) 6 6] v6 fun e w' => e = .returned (.string (str (putL n.nums))) ∧ Below w2.heap.size w2 w' ∧ w'.cell? ⟨w2.heap.size, 0, none⟩ = some (.int .i64 (fs.length : Int))) := ⟨_, rfl, Lib.hid (refInts6c w2 n (fs.length : Int) HN.out)⟩
  have E6 := Lib.hid e6
  have E6b := Lib.hid e6b
  have E6c := Lib.hid e6c
  have HI6 := H6
  have HI6b := H6b
  have HI6c := H6c
  clear e6 e6b e6c
  have HEn := Lib.hid (fun (w' : World) (b' : Below w2.heap.size w2 w') => refEntries_any (HE2.out.below b') HOE.out (by omega))
  generalize str (putL n.nums) = t1 at *
  generalize str (putL [(es.length : Int)] ++ entsL es) = t2 at *
  generalize str (putL [(fs.length : Int)]) = t3 at *
  go_upto_region 3 with fail
  go_cut [4] (fun t wx => t = .string (str (encH n es fs)) ∧ Below w2.heap.size w2 wx)
  case first =>
    have ha1 : ¬ 9223372036854775807 < t1.size + t2.size := by omega
    have ha2 : ¬ 9223372036854775807 < (t1 ++ t2).size + t3.size := by rw [ByteArray.size_append]; omega
    have ha3 : ¬ 9223372036854775807 < t1.size + t2.size + t3.size := by omega
    go_region_held3 (fun w' => w'.cell? ⟨w.heap.size, 0, none⟩ = some (.int .i64 n.kind) ∧ w'.cell? ⟨w.heap.size, 1, none⟩ = some (.int .i64 n.stream) ∧ w'.cell? ⟨w.heap.size, 2, none⟩ = some (.int .i64 n.epoch) ∧ w'.cell? ⟨w.heap.size, 3, none⟩ = some (.int .i64 n.view) ∧ w'.cell? ⟨w.heap.size, 4, none⟩ = some (.int .i64 n.frm) ∧ w'.cell? ⟨w.heap.size, 5, none⟩ = some (.int .i64 n.length) ∧ w'.cell? ⟨w.heap.size, 6, none⟩ = some (.slice ae es.length ce) ∧ w'.cell? ⟨w.heap.size, 7, none⟩ = some (.slice af fs.length cf))
      (first | exact ⟨c0, c1, c2, c3, c4, c5, c6, c7⟩ | exact q3 | (rw [E3.out]; exact q3a) | exact q4 | exact q4a | exact q5 | exact ⟨trivial, trivial⟩ | go_keep)
      (first
        | (go_at_call 27; rw [E4.out]; refine H4n.out.mono ?_; rintro e w5 ⟨rfl, b5⟩; have b5a := b4a.trans (b5.mono b4a.size); have q5 := R2.out.below (by omega) b5a)
        | (go_at_call 27; have b5p := b4a.size; refine (HI1.out w4 _ (by first | exact h4 | exact (b4.cell (p := ⟨w2.heap.size, 0, none⟩) (World.block_lt_of_cell? w3 _ h3)).trans h3 | exact (b4.cell (p := ⟨w2.heap.size + 1, 0, none⟩) (World.block_lt_of_cell? w3 _ h3)).trans h3)).mono ?_; rintro e w5 ⟨rfl, b5⟩; have b5a := b4a.trans (b5.mono b4a.size); have q5 := R2.out.below (by omega) b5a)
        | (go_at_call 28; rw [E3.out]; refine (HEn.out _ b3a).mono ?_; rintro e w4 ⟨rfl, b4⟩; have b4a := b3a.trans (b4.mono b3a.size); have q4 := R2.out.below (by omega) b4a; have h4 : w4.cell? ⟨w3.heap.size, 0, none⟩ = some (.int .i64 (fs.length : Int)) := (b4.cell (p := ⟨w3.heap.size, 0, none⟩) (World.block_lt_of_cell? _ _ h3a)).trans h3a)
        | (go_at_call 28; refine (HEn.out _ b3).mono ?_; rintro e w4 ⟨rfl, b4⟩; have b4a := b3.trans (b4.mono b3.size); have q4 := R2.out.below (by omega) b4a; have q4a := R2.out.below (by omega) (b4a.alloc b4a.size (.cells #[.int .i64 (fs.length : Int)] 3)); obtain ⟨w4b, e4, H4n⟩ := alloc_call w4 (fs.length : Int) (HI1n.out w4); have E4 := Lib.hid e4; clear e4)
        | (go_at_call 27; rw [E6.out]; refine HI6.out.mono ?_; rintro e w3 ⟨rfl, b3⟩; have q3 := R2.out.below (by omega) b3; obtain ⟨w3a, e3, b3c, h3a⟩ := alloc_cell w3 (fs.length : Int); have b3a := b3.trans (b3c.mono b3.size); have q3a := R2.out.below (by omega) b3a; have E3 := Lib.hid e3; clear e3)
        | (go_at_call 27; rw [E6b.out]; refine HI6b.out.mono ?_; rintro e w3 ⟨rfl, b3, h3⟩; have q3 := R2.out.below (by omega) b3)
        | (go_at_call 27; rw [E6c.out]; refine HI6c.out.mono ?_; rintro e w3 ⟨rfl, b3, h3⟩; have q3 := R2.out.below (by omega) b3))
    all_goals (go_wp2_with fail; go_meet; exact ⟨congrArg Value.string HS.out, b5a⟩)
  case rest =>
    obtain ⟨rfl, bc⟩ := hcut
    clear c0 c1 c2 c3 c4 c5 c6 c7 E6 E6b E6c HI6 HI6b HI6c H6 H6b H6c
    have sc := bc.size
    have RC := Lib.hid (R2.out.below (by omega) bc)
    have HFC := Lib.hid ((HF.out.below b2).below bc)
    have Bc := b1.trans ((b2.trans (bc.mono s2)).mono b1.size)
    go_wp2_with fail
    go_loopw [4, 5] (fun t p wr => ∃ k : Nat, k ≤ fs.length ∧ p = .int .i64 k ∧ t = .string (str (encH n es fs ++ sptsL (fs.take k))) ∧ Below wc.heap.size wc wr) (fun _ p _ => fs.length - (intOf p).toNat)
    case atStart => exact ⟨0, by omega, rfl, by simp [sptsL], Below.refl _ _⟩
    case round =>
      obtain ⟨k, hk, rfl, rfl, hB⟩ := hrel
      have hBs := hB.size
      have RR := Lib.hid (RC.out.below (by omega) hB)
      obtain ⟨c0, c1, c2, c3, c4, c5, c6, c7⟩ := RR.out
      by_cases hlt : k < fs.length
      · obtain ⟨a1, c1', hva, hca⟩ := HFC.out.below hB
        cases hva
        obtain ⟨bb, off, rfl, hbl, _, hcell⟩ := hca (fun h => by rw [h] at hlt; simp at hlt)
        obtain ⟨x0, x1⟩ := hcell k hlt
        have HOx := Lib.hid (HOF.out _ (List.getElem_mem hlt))
        have HT := Lib.hid (str_spts (encH n es fs) fs k hlt)
        have hs1 : (str (encH n es fs ++ sptsL (fs.take k))).size ≤ 20000 := by
          have e1 := sptsL_len (fs.take k)
          rw [List.length_take] at e1
          have e2 := encH_len n es fs
          rw [str_size, List.length_append]; omega
        have hs2 : (str (putL fs[k].nums)).size ≤ 20 := by
          rw [str_size]
          exact putL_len fs[k].nums
        clear hcell hca c0 c1 c2 c3 c4 c5 c6
        generalize fs[k] = x at *
        generalize str (encH n es fs ++ sptsL (fs.take k)) = sx at *
        generalize hsy : str (putL x.nums) = sy at *
        have HSY := Lib.hid hsy
        clear hsy
        have ha1 : ¬ 9223372036854775807 < sx.size + sy.size := by omega
        obtain ⟨w4, e4, H4⟩ : ∃ v6, (wr.alloc (.cells #[.int .i64 x.stream, .int .i64 x.index] 3)).drew = v6 ∧ Hid (Calls Try.prog 27 #[.slice (some ⟨wr.heap.size, 0, none⟩) 2 2] v6 fun e w' => e = .returned (.string sy) ∧ Below wr.heap.size wr w') := ⟨_, rfl, Lib.hid (HSY.out ▸ refInts2 wr x HOx.out)⟩
        have E4 := Lib.hid e4
        have hq : w.heap.size < wr.heap.size := by omega
        have b4 : Below wr.heap.size wr w4 := by rw [← e4]; exact ((Below.refl _ _).alloc (Nat.le_refl _) _).drew
        have q4 := spBox b4 hbl hq ⟨x0, x1, c7⟩
        clear e4
        go_wp2_with fail
        go_region_held3 (fun w' => w'.cell? ⟨bb, off + k * 2, none⟩ = some (.int .i64 x.stream) ∧ w'.cell? ⟨bb, off + k * 2 + 1, none⟩ = some (.int .i64 x.index) ∧ w'.cell? ⟨w.heap.size, 7, none⟩ = some (.slice (some ⟨bb, off, none⟩) fs.length cf))
          (first | exact ⟨x0, x1, c7⟩ | (rw [E4.out]; exact q4) | exact q5 | exact ⟨trivial, trivial⟩ | go_keep)
          ((go_at_call 27; rw [E4.out]; refine H4.out.mono ?_; rintro e w5 ⟨rfl, b5⟩; have q5 := spBox b5 hbl hq ⟨x0, x1, c7⟩))
        go_wp2
        go_roundw
        case rel => exact ⟨k + 1, by omega, by go_num, by rw [← HT.out], hB.trans (b5.mono hBs)⟩
        case measure => simp [intOf]; omega
      · obtain rfl : k = fs.length := by omega
        rw [List.take_length, encH_all]
        go_wp2
        go_ret2
        exact ⟨rfl, Bc.trans (hB.mono (by omega))⟩
end Go.Proofs.Ytalilifegclelaa
