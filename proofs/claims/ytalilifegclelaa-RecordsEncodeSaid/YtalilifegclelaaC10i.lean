/- The contracts of records: Check, Encode. -/
import Derived.Test.YtalilifegclelaaC10h
namespace Go.Proofs.Ytalilifegclelaa
open Go.RowKit

theorem EntsAt.rebase {B : Nat} {w : World} {v : Value} {es : List Ent} (h : EntsAt B w v es) (B' : Nat) (hB : w.heap.size ≤ B') : EntsAt B' w v es := by
  obtain ⟨a, cap, hv, hc⟩ := h
  refine ⟨a, cap, hv, fun hl => ?_⟩
  obtain ⟨b, off, ha, hlt, _, hcell⟩ := hc hl
  exact ⟨b, off, ha, hlt, .inl (by omega), hcell⟩
theorem SptsAt.rebase {B : Nat} {w : World} {v : Value} {es : List Spt} (h : SptsAt B w v es) (B' : Nat) (hB : w.heap.size ≤ B') : SptsAt B' w v es := by
  obtain ⟨a, cap, hv, hc⟩ := h
  refine ⟨a, cap, hv, fun hl => ?_⟩
  obtain ⟨b, off, ha, hlt, _, hcell⟩ := hc hl
  exact ⟨b, off, ha, hlt, .inl (by omega), hcell⟩
theorem may_yes {B : Nat} {w : World} {n : RNum} {ae af : Option Addr} {ce cf : Nat} {es : List Ent} {fs : List Spt} (he : EntsAt B w (.slice ae es.length ce) es) (hf : SptsAt B w (.slice af fs.length cf) fs) (hl : es.length ≤ 1000000) (hlf : fs.length ≤ 1000000) (h : mayR n es fs = true) :
    Calls Try.prog 20 #[.agg #[.int .i64 n.kind, .int .i64 n.stream, .int .i64 n.epoch, .int .i64 n.view, .int .i64 n.frm, .int .i64 n.length, .slice ae es.length ce, .slice af fs.length cf]] w fun e w' => e = .returned (.bool true) ∧ Below w.heap.size w w' := by
  have := may_any n he hf hl hlf
  rw [h] at this; exact this
theorem may_no {B : Nat} {w : World} {n : RNum} {ae af : Option Addr} {ce cf : Nat} {es : List Ent} {fs : List Spt} (he : EntsAt B w (.slice ae es.length ce) es) (hf : SptsAt B w (.slice af fs.length cf) fs) (hl : es.length ≤ 1000000) (hlf : fs.length ≤ 1000000) (h : mayR n es fs = false) :
    Calls Try.prog 20 #[.agg #[.int .i64 n.kind, .int .i64 n.stream, .int .i64 n.epoch, .int .i64 n.view, .int .i64 n.frm, .int .i64 n.length, .slice ae es.length ce, .slice af fs.length cf]] w fun e w' => e = .returned (.bool false) ∧ Below w.heap.size w w' := by
  have := may_any n he hf hl hlf
  rw [h] at this; exact this
theorem checkR_yes {B : Nat} {w : World} {n : RNum} {ae af : Option Addr} {ce cf : Nat} {es : List Ent} {fs : List Spt} (he : EntsAt B w (.slice ae es.length ce) es) (hf : SptsAt B w (.slice af fs.length cf) fs) (hl : es.length ≤ 1000000) (hlf : fs.length ≤ 1000000) (h : mayR n es fs = true) :
    Calls Try.prog 12 #[.agg #[.int .i64 n.kind, .int .i64 n.stream, .int .i64 n.epoch, .int .i64 n.view, .int .i64 n.frm, .int .i64 n.length, .slice ae es.length ce, .slice af fs.length cf]] w fun e w' => e = .returned (.int .i64 0) ∧ Below w.heap.size w w' := by
  obtain ⟨w1, e1, b1, s1, h1⟩ := boxed w (recCells n (.slice ae es.length ce) (.slice af fs.length cf)) 25
  have E1 := Lib.hid (show w.alloc (.cells #[.int .i64 n.kind, .int .i64 n.stream, .int .i64 n.epoch, .int .i64 n.view, .int .i64 n.frm, .int .i64 n.length, .slice ae es.length ce, .slice af fs.length cf] 25) = w1 from e1)
  obtain ⟨c0, c1, c2, c3, c4, c5, c6, c7⟩ := rec_cells h1
  have HM := Lib.hid (may_yes (he.below b1) (hf.below b1) hl hlf h)
  clear e1 h1 he hf h
  go_enter Try.func12, Try.ntmps12
  go_wp2_with fail
  (try rw [E1.out])
  refine HM.out.mono ?_
  rintro e w2 ⟨rfl, b2⟩
  go_wp2
  go_ret
  exact ⟨rfl, b1.trans (b2.mono b1.size)⟩
theorem checkR_no {B : Nat} {w : World} {n : RNum} {ae af : Option Addr} {ce cf : Nat} {es : List Ent} {fs : List Spt} (he : EntsAt B w (.slice ae es.length ce) es) (hf : SptsAt B w (.slice af fs.length cf) fs) (hl : es.length ≤ 1000000) (hlf : fs.length ≤ 1000000) (h : mayR n es fs = false) :
    Calls Try.prog 12 #[.agg #[.int .i64 n.kind, .int .i64 n.stream, .int .i64 n.epoch, .int .i64 n.view, .int .i64 n.frm, .int .i64 n.length, .slice ae es.length ce, .slice af fs.length cf]] w fun e w' => e = .returned (.int .i64 2) ∧ Below w.heap.size w w' := by
  obtain ⟨w1, e1, b1, s1, h1⟩ := boxed w (recCells n (.slice ae es.length ce) (.slice af fs.length cf)) 25
  have E1 := Lib.hid (show w.alloc (.cells #[.int .i64 n.kind, .int .i64 n.stream, .int .i64 n.epoch, .int .i64 n.view, .int .i64 n.frm, .int .i64 n.length, .slice ae es.length ce, .slice af fs.length cf] 25) = w1 from e1)
  obtain ⟨c0, c1, c2, c3, c4, c5, c6, c7⟩ := rec_cells h1
  have HM := Lib.hid (may_no (he.below b1) (hf.below b1) hl hlf h)
  clear e1 h1 he hf h
  go_enter Try.func12, Try.ntmps12
  go_wp2_with fail
  (try rw [E1.out])
  refine HM.out.mono ?_
  rintro e w2 ⟨rfl, b2⟩
  go_wp2
  go_ret
  exact ⟨rfl, b1.trans (b2.mono b1.size)⟩

theorem log_small {es : List Ent} {s f : Int} (h : logGood es s f = true) : es.length ≤ 64 := by
  unfold logGood at h
  simp only [Bool.and_eq_true, decide_eq_true_eq, within_iff] at h
  omega
theorem may_small {n : RNum} {es : List Ent} {fs : List Spt} (h : mayR n es fs = true) : es.length ≤ 64 ∧ fs.length ≤ 256 := by
  unfold mayR kindGood at h
  simp only [Bool.and_eq_true, Bool.not_eq_true', Bool.and_eq_false_iff, decide_eq_false_iff_not] at h
  obtain ⟨⟨_, h2⟩, h3⟩ := h
  split at h3
  · simp only [Bool.and_eq_true, decide_eq_true_eq] at h3
    rename_i hk
    exact ⟨by omega, by omega⟩
  · split at h3
    · rename_i hk
      simp only [Bool.and_eq_true] at h3
      exact ⟨log_small h3.1.2, by omega⟩
    · split at h3
      · rename_i hk
        simp only [Bool.and_eq_true, decide_eq_true_eq] at h3
        exact ⟨by omega, by omega⟩
      · split at h3
        · rename_i hk
          simp only [Bool.and_eq_true] at h3
          exact ⟨log_small h3.1.1.1.2, by omega⟩
        · split at h3
          · simp only [Bool.and_eq_true, decide_eq_true_eq, feedGood] at h3
            exact ⟨by omega, h3.1.2.1⟩
          · cases h3

def RNum.nums (n : RNum) : List Int := [n.kind, n.stream, n.epoch, n.view, n.frm, n.length]
def RNumOk (n : RNum) : Prop := ∀ x ∈ n.nums, -9223372036854775808 ≤ x ∧ x ≤ 9223372036854775807
/-- A record's bytes. -/
def encR (n : RNum) (es : List Ent) (fs : List Spt) : List UInt8 := putL n.nums ++ putL [(es.length : Int)] ++ entsL es ++ putL [(fs.length : Int)] ++ sptsL fs
theorem putL_ne {n : Int} {ns : List Int} : putL (n :: ns) ≠ [] := by
  intro h
  have := congrArg List.length h
  have h2 := (Marks.put_len n).1
  have e : putL (n :: ns) = Marks.put n ++ putL ns := rfl
  rw [e, List.length_append, List.length_nil] at this
  omega
theorem encR_ne (n : RNum) (es : List Ent) (fs : List Spt) : encR n es fs ≠ [] := by
  intro h
  unfold encR at h
  simp only [List.append_eq_nil_iff] at h
  exact putL_ne h.1.1.1.1

set_option maxRecDepth 100000 in
set_option maxHeartbeats 4000000 in
theorem encodeR_no {B : Nat} {w : World} {n : RNum} {ae af : Option Addr} {ce cf : Nat} {es : List Ent} {fs : List Spt} (he : EntsAt B w (.slice ae es.length ce) es) (hf : SptsAt B w (.slice af fs.length cf) fs) (hl : es.length ≤ 1000000) (hlf : fs.length ≤ 1000000) (h : mayR n es fs = false) :
    Calls Try.prog 10 #[.agg #[.int .i64 n.kind, .int .i64 n.stream, .int .i64 n.epoch, .int .i64 n.view, .int .i64 n.frm, .int .i64 n.length, .slice ae es.length ce, .slice af fs.length cf]] w fun e w' => e = .returned (.tuple #[.string ⟨#[]⟩, .int .i64 2]) ∧ Below w.heap.size w w' := by
  obtain ⟨w1, e1, b1, s1, h1⟩ := boxed w (recCells n (.slice ae es.length ce) (.slice af fs.length cf)) 25
  have E1 := Lib.hid (show w.alloc (.cells #[.int .i64 n.kind, .int .i64 n.stream, .int .i64 n.epoch, .int .i64 n.view, .int .i64 n.frm, .int .i64 n.length, .slice ae es.length ce, .slice af fs.length cf] 25) = w1 from e1)
  obtain ⟨c0, c1, c2, c3, c4, c5, c6, c7⟩ := rec_cells h1
  have HM := Lib.hid (may_no (he.below b1) (hf.below b1) hl hlf h)
  clear e1 h1 he hf h
  go_enter Try.func10, Try.ntmps10
  go_wp2_with fail
  rw [E1.out]
  refine HM.out.mono ?_
  rintro e w2 ⟨rfl, b2⟩
  go_wp2
  go_ret2
  exact ⟨rfl, b1.trans (b2.mono b1.size)⟩

set_option maxRecDepth 100000 in
set_option maxHeartbeats 8000000 in
theorem encodeR_yes {B : Nat} {w : World} {n : RNum} {ae af : Option Addr} {ce cf : Nat} {es : List Ent} {fs : List Spt} (he : EntsAt B w (.slice ae es.length ce) es) (hf : SptsAt B w (.slice af fs.length cf) fs) (hn : RNumOk n) (hoe : EntsOk es) (hof : SptsOk fs) (h : mayR n es fs = true) :
    Calls Try.prog 10 #[.agg #[.int .i64 n.kind, .int .i64 n.stream, .int .i64 n.epoch, .int .i64 n.view, .int .i64 n.frm, .int .i64 n.length, .slice ae es.length ce, .slice af fs.length cf]] w fun e w' => e = .returned (.tuple #[.string (str (encR n es fs)), .int .i64 0]) ∧ Below w.heap.size w w' := by
  obtain ⟨hl, hlf⟩ := may_small h
  obtain ⟨w1, e1, b1, s1, h1⟩ := boxed w (recCells n (.slice ae es.length ce) (.slice af fs.length cf)) 25
  have E1 := Lib.hid (show w.alloc (.cells #[.int .i64 n.kind, .int .i64 n.stream, .int .i64 n.epoch, .int .i64 n.view, .int .i64 n.frm, .int .i64 n.length, .slice ae es.length ce, .slice af fs.length cf] 25) = w1 from e1)
  have hcells := rec_cells h1
  have HM := Lib.hid (may_yes (he.below b1) (hf.below b1) (by omega) (by omega) h)
  have HE1 := Lib.hid ((he.below b1).rebase w1.heap.size (Nat.le_refl _))
  have HF1 := Lib.hid ((hf.below b1).rebase w1.heap.size (Nat.le_refl _))
  have H1 := Lib.hid h1
  have HN := Lib.hid hn
  have HOE := Lib.hid hoe
  have HOF := Lib.hid hof
  clear e1 h1 he hf h hn hoe hof
  obtain ⟨c0, c1, c2, c3, c4, c5, c6, c7⟩ := hcells
  go_enter Try.func10, Try.ntmps10
  go_wp2_with fail
  rw [E1.out]
  refine HM.out.mono ?_
  rintro e w2 ⟨rfl, b2⟩
  clear c0 c1 c2 c3 c4 c5 c6 c7
  have s2 := b2.size
  have h2 := (b2.block w.heap.size (by omega)).trans H1.out
  obtain ⟨c0, c1, c2, c3, c4, c5, c6, c7⟩ := rec_cells h2
  have H2 := Lib.hid h2
  obtain ⟨w3, e3, b3, s3, n3, g3⟩ := built w2 n.nums
  have E3 := Lib.hid (show w2.alloc (.cells #[.int .i64 n.kind, .int .i64 n.stream, .int .i64 n.epoch, .int .i64 n.view, .int .i64 n.frm, .int .i64 n.length] 3) = w3 from e3)
  have HX := Lib.hid (ints_any (B := w1.heap.size) (w := w3) (v := .slice none 0 0) (l := []) (World.ownsRow_nil _ _ _ _) (by omega) n.nums (by show 0 + 10 * 6 ≤ _; omega) HN.out (g := w2.heap.size) (by omega) n3 g3 (cap := 6))
  have hK3 : Kept w1.heap.size w1 w3 := (Kept.of_below b2 (Nat.le_refl _)).trans (Kept.of_below b3 (by omega))
  rw [List.nil_append] at HX
  have HE3 := Lib.hid (HE1.out.kept hK3)
  have HF3 := Lib.hid (HF1.out.kept hK3)
  clear h2 e3 n3 g3
  go_wp2_with fail
  rw [E3.out]
  refine HX.out.mono ?_
  rintro e w4 ⟨v4, rfl, hb4, hk4⟩
  clear c0 c1 c2 c3 c4 c5 c6 c7
  have hlt : w.heap.size < w1.heap.size := by omega
  have h4 := (hk4.below.block w.heap.size hlt).trans ((b3.block w.heap.size (by omega)).trans H2.out)
  obtain ⟨c0, c1, c2, c3, c4, c5, c6, c7⟩ := rec_cells h4
  have H4 := Lib.hid h4
  have s4 := hk4.size
  have pl := putL_len n.nums
  have pn : n.nums.length = 6 := rfl
  have HX2 := Lib.hid (entList_any hb4 (by omega) (HE3.out.kept hk4) HOE.out (by omega))
  have HF4 := Lib.hid (HF3.out.kept hk4)
  clear h4 hb4
  go_wp2_with fail
  refine HX2.out.mono ?_
  rintro e w5 ⟨v5, rfl, hb5, hk5⟩
  clear c0 c1 c2 c3 c4 c5 c6 c7
  have h5 := (hk5.below.block w.heap.size hlt).trans H4.out
  obtain ⟨c0, c1, c2, c3, c4, c5, c6, c7⟩ := rec_cells h5
  have s5 := hk5.size
  have pl2 := putL_len [(es.length : Int)]
  rw [List.length_singleton] at pl2
  have pe := entsL_len es
  have HX3 := Lib.hid (sptList_any hb5 (by omega) (HF4.out.kept hk5) HOF.out (by simp only [List.length_append]; omega))
  clear h5 hb5
  go_wp2_with fail
  refine HX3.out.mono ?_
  rintro e w6 ⟨v6, rfl, hb6, hk6⟩
  have hcv := run_string_owned (l := encR n es fs) (w := w6) (B := w1.heap.size) (v := v6) hb6 (encR_ne _ _ _)
  have B6 := (b1.trans (hK3.below.mono b1.size)).trans ((hk4.below.trans (hk5.below.trans hk6.below)).mono b1.size)
  clear hb6
  go_wp2
  go_ret2
  exact ⟨rfl, B6⟩
end Go.Proofs.Ytalilifegclelaa
