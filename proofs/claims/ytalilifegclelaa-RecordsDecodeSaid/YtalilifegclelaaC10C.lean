/- The walk of RecordsBack. (Printed by wip/src/XC10C.py.) -/
import Derived.Test.YtalilifegclelaaC10z
import Derived.Test.YtalilifegclelaaC10B
namespace Go.Proofs.Ytalilifegclelaa
open Go.RowKit

theorem decR_none {s : ByteArray} (hs : s.size ≤ 900000) (h : decR s.data.toList = none) (w : World) :
    Calls Try.prog 16 #[.string s] w fun e w' => e = .returned (.tuple #[.agg #[.int .i64 0, .int .i64 0, .int .i64 0, .int .i64 0, .int .i64 0, .int .i64 0, .slice none 0 0, .slice none 0 0], .int .i64 30]) ∧ Below w.heap.size w w' :=
  (decodeR_any hs w).mono fun _ _ ⟨hb, h1, _⟩ => ⟨h1 h, hb⟩
theorem decR_yes {s : ByteArray} {x : RNum × List Ent × List Spt} (hs : s.size ≤ 900000) (h : decR s.data.toList = some x) (w : World) :
    Calls Try.prog 16 #[.string s] w fun e w' => Below w.heap.size w w' ∧ ∃ a7 c7 a9 c9, e = .returned (.tuple #[.agg #[.int .i64 x.1.kind, .int .i64 x.1.stream, .int .i64 x.1.epoch, .int .i64 x.1.view, .int .i64 x.1.frm, .int .i64 x.1.length, .slice a7 x.2.1.length c7, .slice a9 x.2.2.length c9], .int .i64 0]) ∧
      EntsAt w'.heap.size w' (.slice a7 x.2.1.length c7) x.2.1 ∧ SptsAt w'.heap.size w' (.slice a9 x.2.2.length c9) x.2.2 := by
  refine (decodeR_any hs w).mono ?_
  rintro e w' ⟨hb, _, h2⟩
  obtain ⟨a7, c7, a9, c9, he, h7, h9⟩ := h2 _ h
  exact ⟨hb, a7, c7, a9, c9, he, ents_owned h7, spts_owned h9⟩
theorem same_nil (w : World) : Calls Try.prog 14 #[.agg #[.int .i64 0, .int .i64 0, .int .i64 0, .int .i64 0, .int .i64 0, .int .i64 0, .slice none 0 0, .slice none 0 0], .agg #[.int .i64 0, .int .i64 0, .int .i64 0, .int .i64 0, .int .i64 0, .int .i64 0, .slice none 0 0, .slice none 0 0]] w fun e w' => e = .returned (.bool true) ∧ Below w.heap.size w w' := by
  have := same_any noNum (ents_nil w.heap.size w) (spts_nil w.heap.size w) (ents_nil w.heap.size w) (spts_nil w.heap.size w) (by simp) (by simp)
  exact this

set_option maxRecDepth 100000 in
set_option maxHeartbeats 8000000 in
theorem recordsBack_walk (n : RNum) (es : List Ent) (fs : List Spt) (v : Value) (s : ByteArray) (_hs0 : s.size ≤ maxLen) (w : World) (hR : RecIn w v n es fs) :
    Calls Try.prog 5 #[v, .string s] w fun e w' => e = .returned (.bool true) ∧ Below w.heap.size w w' := by
  obtain ⟨ae, ce, af, cf, rfl, hn, he, hf⟩ := hR.parts
  clear hR
  obtain ⟨w1, e1, b1, s1, g1⟩ := boxed w (recCells n (.slice ae es.length ce) (.slice af fs.length cf)) 25
  have E1 := Lib.hid (show w.alloc (.cells #[.int .i64 n.kind, .int .i64 n.stream, .int .i64 n.epoch, .int .i64 n.view, .int .i64 n.frm, .int .i64 n.length, .slice ae es.length ce, .slice af fs.length cf] 25) = w1 from e1)
  have R1 := Lib.hid (show recAt w1 w.heap.size n (.slice ae es.length ce) (.slice af fs.length cf) from rec_cells g1)
  obtain ⟨c0, c1, c2, c3, c4, c5, c6, c7⟩ := R1.out
  clear e1 g1
  by_cases hgr : 500 < es.length ∨ 1000 < fs.length
  · have HG := Lib.hid (great_yes (w := w1) n (ae := ae) (af := af) (ce := ce) (cf := cf) hgr)
    clear hgr he hf hn
    go_enter Try.func5, Try.ntmps5
    go_wp2_with fail
    rw [E1.out]
    refine HG.out.mono ?_
    rintro e w2 ⟨rfl, b2⟩
    go_wp2
    go_ret
    exact ⟨rfl, b1.trans (b2.mono b1.size)⟩
  · have HG := Lib.hid (great_no (w := w1) n (ae := ae) (af := af) (ce := ce) (cf := cf) (le := es.length) (lf := fs.length) (by omega) (by omega))
    have HW := Lib.hid works_any
    have hz1 : es.length ≤ 500 := by omega
    have hz2 : fs.length ≤ 1000 := by omega
    clear hgr
    by_cases hs2 : 20000 < s.size
    · clear he hf hn
      go_enter Try.func5, Try.ntmps5
      go_wp2_with fail
      rw [E1.out]
      refine HG.out.mono ?_
      rintro e w2 ⟨rfl, b2⟩
      go_wp2
      go_ret
      exact ⟨rfl, b1.trans (b2.mono b1.size)⟩
    · have hs : s.size ≤ 900000 := by omega
      have HN := Lib.hid hn
      have HOE := Lib.hid he.2.2
      have HOF := Lib.hid hf.2.2
      have HE := Lib.hid (he.1.below b1)
      have HF := Lib.hid (hf.1.below b1)
      clear he hf hn
      cases hm : mayR n es fs with
      | false =>
        have HM := Lib.hid hm
        clear hm
        go_enter Try.func5, Try.ntmps5
        go_wp2_with fail
        rw [E1.out]
        refine HG.out.mono ?_
        rintro e w2 ⟨rfl, b2⟩
        have s2 := b2.size
        clear c0 c1 c2 c3 c4 c5 c6 c7
        obtain ⟨c0, c1, c2, c3, c4, c5, c6, c7⟩ := R1.out.below (by omega) b2
        have X2 := Lib.hid (encodeR_no (HE.out.below b2) (HF.out.below b2) (by omega) (by omega) HM.out)
        go_wp2_with fail
        refine X2.out.mono ?_
        rintro e w3 ⟨rfl, b3⟩
        have B3 := b2.trans (b3.mono s2)
        clear c0 c1 c2 c3 c4 c5 c6 c7
        obtain ⟨c0, c1, c2, c3, c4, c5, c6, c7⟩ := R1.out.below (by omega) B3
        have X3 := Lib.hid (checkR_no (HE.out.below B3) (HF.out.below B3) (by omega) (by omega) HM.out)
        go_wp2_with fail
        refine X3.out.mono ?_
        rintro e w4 ⟨rfl, b4⟩
        have BX := B3.trans (b4.mono B3.size)
        clear c0 c1 c2 c3 c4 c5 c6 c7
        have sx := BX.size
        have B1x := b1.trans (BX.mono b1.size)
        cases hd : decR s.data.toList with
        | none =>
          have HD := Lib.hid (decR_none hs hd)
          clear hd
          go_wp2_with fail
          refine (HD.out _).mono ?_
          rintro e w6 ⟨rfl, b6⟩
          have s6 := b6.size
          obtain ⟨w7, e7, b7, s7, g7⟩ := boxed w6 (recCells noNum (.slice none ([] : List Ent).length 0) (.slice none ([] : List Spt).length 0)) 25
          have E7 := Lib.hid (show w6.alloc (.cells #[.int .i64 0, .int .i64 0, .int .i64 0, .int .i64 0, .int .i64 0, .int .i64 0, .slice none 0 0, .slice none 0 0] 25) = w7 from e7)
          obtain ⟨c0, c1, c2, c3, c4, c5, c6, c7⟩ := rec_cells g7
          have HS := Lib.hid (same_nil w7)
          clear e7 g7
          go_upto_region 13 with fail
          rw [E7.out]
          go_wp2_with fail
          refine HS.out.mono ?_
          rintro e w8 ⟨rfl, b8⟩
          have s8 := b8.size
          go_wp2_with fail
          refine (HW.out _).mono ?_
          rintro e w9 ⟨rfl, b9⟩
          go_wp2
          go_ret
          exact ⟨rfl, B1x.trans ((b6.trans ((b7.mono s6).trans ((b8.mono (by omega)).trans (b9.mono (by omega))))).mono B1x.size)⟩
        | some x =>
          obtain ⟨hmx, hex⟩ := decR_some hd
          obtain ⟨hox, hoe, hof⟩ := decR_ok hd
          have HD := Lib.hid (decR_yes hs hd)
          have HXM := Lib.hid hmx
          have HXE := Lib.hid (show str (encR x.1 x.2.1 x.2.2) = s by rw [hex]; exact str_self s)
          have HXO := Lib.hid hox
          have HXA := Lib.hid hoe
          have HXB := Lib.hid hof
          clear hd hmx hex hox hoe hof
          go_wp2_with fail
          refine (HD.out _).mono ?_
          rintro e w6 ⟨b6, a7, k7, a9, k9, rfl, he6, hf6⟩
          have s6 := b6.size
          obtain ⟨w7, e7, b7, s7, g7⟩ := boxed w6 (recCells x.1 (.slice a7 x.2.1.length k7) (.slice a9 x.2.2.length k9)) 25
          have E7 := Lib.hid (show w6.alloc (.cells #[.int .i64 x.1.kind, .int .i64 x.1.stream, .int .i64 x.1.epoch, .int .i64 x.1.view, .int .i64 x.1.frm, .int .i64 x.1.length, .slice a7 x.2.1.length k7, .slice a9 x.2.2.length k9] 25) = w7 from e7)
          have R7 := Lib.hid (show recAt w7 w6.heap.size x.1 (.slice a7 x.2.1.length k7) (.slice a9 x.2.2.length k9) from rec_cells g7)
          obtain ⟨c0, c1, c2, c3, c4, c5, c6, c7⟩ := R7.out
          have X7 := encodeR_yes (he6.below b7) (hf6.below b7) HXO.out HXA.out HXB.out HXM.out
          rw [HXE.out] at X7
          have X7 := Lib.hid X7
          have HEX := Lib.hid (he6.below b7)
          have HFX := Lib.hid (hf6.below b7)
          clear e7 g7 he6 hf6
          go_upto_region 13 with fail
          rw [E7.out]
          go_wp2_with fail
          refine X7.out.mono ?_
          rintro e w8 ⟨rfl, b8⟩
          have s8 := b8.size
          clear c0 c1 c2 c3 c4 c5 c6 c7
          obtain ⟨c0, c1, c2, c3, c4, c5, c6, c7⟩ := R7.out.below (by omega) b8
          obtain ⟨hz1, hz2⟩ := may_small HXM.out
          have X8 := Lib.hid (checkR_yes (HEX.out.below b8) (HFX.out.below b8) (by omega) (by omega) HXM.out)
          clear hz1 hz2
          go_wp2_with fail
          refine X8.out.mono ?_
          rintro e w9 ⟨rfl, b9⟩
          have s9 := b9.size
          go_wp2_with fail
          refine (HW.out _).mono ?_
          rintro e w10 ⟨rfl, b10⟩
          go_wp2
          go_ret
          exact ⟨rfl, B1x.trans ((b6.trans ((b7.mono s6).trans ((b8.mono (by omega)).trans ((b9.mono (by omega)).trans (b10.mono (by omega)))))).mono B1x.size)⟩
      | true =>
        have HM := Lib.hid hm
        have hdd := dec_enc HN.out HOE.out HOF.out hm
        have hfew := encR_few hm
        have HDD := Lib.hid (decR_yes (s := str (encR n es fs)) (by rw [str_size]; omega) hdd)
        clear hm hdd hfew
        go_enter Try.func5, Try.ntmps5
        go_wp2_with fail
        rw [E1.out]
        refine HG.out.mono ?_
        rintro e w2 ⟨rfl, b2⟩
        have s2 := b2.size
        clear c0 c1 c2 c3 c4 c5 c6 c7
        obtain ⟨c0, c1, c2, c3, c4, c5, c6, c7⟩ := R1.out.below (by omega) b2
        have X2 := Lib.hid (encodeR_yes (HE.out.below b2) (HF.out.below b2) HN.out HOE.out HOF.out HM.out)
        generalize str (encR n es fs) = te at *
        go_wp2_with fail
        refine X2.out.mono ?_
        rintro e w3 ⟨rfl, b3⟩
        have B3 := b2.trans (b3.mono s2)
        clear c0 c1 c2 c3 c4 c5 c6 c7
        obtain ⟨c0, c1, c2, c3, c4, c5, c6, c7⟩ := R1.out.below (by omega) B3
        have X3 := Lib.hid (checkR_yes (HE.out.below B3) (HF.out.below B3) (by omega) (by omega) HM.out)
        go_wp2_with fail
        refine X3.out.mono ?_
        rintro e w4 ⟨rfl, b4⟩
        have B4 := B3.trans (b4.mono B3.size)
        have s4 := B4.size
        clear c0 c1 c2 c3 c4 c5 c6 c7
        go_wp2_with fail
        refine (HDD.out _).mono ?_
        rintro e w5 ⟨b5, a5, k5, a5', k5', rfl, he5, hf5⟩
        have s5 := b5.size
        obtain ⟨w5b, e5, b5b, s5b, g5⟩ := boxed w5 (recCells n (.slice a5 es.length k5) (.slice a5' fs.length k5')) 25
        have E5 := Lib.hid (show w5.alloc (.cells #[.int .i64 n.kind, .int .i64 n.stream, .int .i64 n.epoch, .int .i64 n.view, .int .i64 n.frm, .int .i64 n.length, .slice a5 es.length k5, .slice a5' fs.length k5'] 25) = w5b from e5)
        have B5 := B4.trans ((b5.trans (b5b.mono s5)).mono s4)
        have s6 := B5.size
        obtain ⟨c0, c1, c2, c3, c4, c5, c6, c7⟩ := R1.out.below (by omega) B5
        obtain ⟨q0, q1, q2, q3, q4, q5, q6, q7⟩ := rec_cells g5
        have X5 := Lib.hid (same_any n (he5.below b5b) (hf5.below b5b) (HE.out.below B5) (HF.out.below B5) (by omega) (by omega))
        clear e5 g5 he5 hf5
        go_upto_region 8 with fail
        rw [E5.out]
        go_wp2_with fail
        refine X5.out.mono ?_
        rintro e w5c ⟨rfl, b5c⟩
        have BX := B5.trans (b5c.mono s6)
        clear c0 c1 c2 c3 c4 c5 c6 c7 q0 q1 q2 q3 q4 q5 q6 q7
        have sx := BX.size
        have B1x := b1.trans (BX.mono b1.size)
        cases hd : decR s.data.toList with
        | none =>
          have HD := Lib.hid (decR_none hs hd)
          clear hd
          go_wp2_with fail
          refine (HD.out _).mono ?_
          rintro e w6 ⟨rfl, b6⟩
          have s6 := b6.size
          obtain ⟨w7, e7, b7, s7, g7⟩ := boxed w6 (recCells noNum (.slice none ([] : List Ent).length 0) (.slice none ([] : List Spt).length 0)) 25
          have E7 := Lib.hid (show w6.alloc (.cells #[.int .i64 0, .int .i64 0, .int .i64 0, .int .i64 0, .int .i64 0, .int .i64 0, .slice none 0 0, .slice none 0 0] 25) = w7 from e7)
          obtain ⟨c0, c1, c2, c3, c4, c5, c6, c7⟩ := rec_cells g7
          have HS := Lib.hid (same_nil w7)
          clear e7 g7
          go_upto_region 13 with fail
          rw [E7.out]
          go_wp2_with fail
          refine HS.out.mono ?_
          rintro e w8 ⟨rfl, b8⟩
          have s8 := b8.size
          go_wp2_with fail
          refine (HW.out _).mono ?_
          rintro e w9 ⟨rfl, b9⟩
          go_wp2
          go_ret
          exact ⟨rfl, B1x.trans ((b6.trans ((b7.mono s6).trans ((b8.mono (by omega)).trans (b9.mono (by omega))))).mono B1x.size)⟩
        | some x =>
          obtain ⟨hmx, hex⟩ := decR_some hd
          obtain ⟨hox, hoe, hof⟩ := decR_ok hd
          have HD := Lib.hid (decR_yes hs hd)
          have HXM := Lib.hid hmx
          have HXE := Lib.hid (show str (encR x.1 x.2.1 x.2.2) = s by rw [hex]; exact str_self s)
          have HXO := Lib.hid hox
          have HXA := Lib.hid hoe
          have HXB := Lib.hid hof
          clear hd hmx hex hox hoe hof
          go_wp2_with fail
          refine (HD.out _).mono ?_
          rintro e w6 ⟨b6, a7, k7, a9, k9, rfl, he6, hf6⟩
          have s6 := b6.size
          obtain ⟨w7, e7, b7, s7, g7⟩ := boxed w6 (recCells x.1 (.slice a7 x.2.1.length k7) (.slice a9 x.2.2.length k9)) 25
          have E7 := Lib.hid (show w6.alloc (.cells #[.int .i64 x.1.kind, .int .i64 x.1.stream, .int .i64 x.1.epoch, .int .i64 x.1.view, .int .i64 x.1.frm, .int .i64 x.1.length, .slice a7 x.2.1.length k7, .slice a9 x.2.2.length k9] 25) = w7 from e7)
          have R7 := Lib.hid (show recAt w7 w6.heap.size x.1 (.slice a7 x.2.1.length k7) (.slice a9 x.2.2.length k9) from rec_cells g7)
          obtain ⟨c0, c1, c2, c3, c4, c5, c6, c7⟩ := R7.out
          have X7 := encodeR_yes (he6.below b7) (hf6.below b7) HXO.out HXA.out HXB.out HXM.out
          rw [HXE.out] at X7
          have X7 := Lib.hid X7
          have HEX := Lib.hid (he6.below b7)
          have HFX := Lib.hid (hf6.below b7)
          clear e7 g7 he6 hf6
          go_upto_region 13 with fail
          rw [E7.out]
          go_wp2_with fail
          refine X7.out.mono ?_
          rintro e w8 ⟨rfl, b8⟩
          have s8 := b8.size
          clear c0 c1 c2 c3 c4 c5 c6 c7
          obtain ⟨c0, c1, c2, c3, c4, c5, c6, c7⟩ := R7.out.below (by omega) b8
          obtain ⟨hz1, hz2⟩ := may_small HXM.out
          have X8 := Lib.hid (checkR_yes (HEX.out.below b8) (HFX.out.below b8) (by omega) (by omega) HXM.out)
          clear hz1 hz2
          go_wp2_with fail
          refine X8.out.mono ?_
          rintro e w9 ⟨rfl, b9⟩
          have s9 := b9.size
          go_wp2_with fail
          refine (HW.out _).mono ?_
          rintro e w10 ⟨rfl, b10⟩
          go_wp2
          go_ret
          exact ⟨rfl, B1x.trans ((b6.trans ((b7.mono s6).trans ((b8.mono (by omega)).trans ((b9.mono (by omega)).trans (b10.mono (by omega)))))).mono B1x.size)⟩
end Go.Proofs.Ytalilifegclelaa
