/- The walk of MailBack. (Printed by wip/src/XC11y.py.) -/
import Derived.Test.YtnekpehgaojkaaaDoorC11q
import Derived.Test.YtnekpehgaojkaaaDoorOpenM
namespace Go.Proofs.YtnekpehgaojkaaaDoor
open Go.RowKit

theorem MsgIn.parts {w : World} {v : Value} {m : MNum} {es : List Ent} (h : MsgIn w v m es) : ∃ ae ce, v = .agg (mailCells m (.slice ae es.length ce)) ∧ MNumOk m ∧ EntsAt w.heap.size w (.slice ae es.length ce) es ∧ EntsOk es := by
  obtain ⟨ve, rfl, hm, he⟩ := h
  obtain ⟨ae, ce, rfl, _⟩ := he.1
  exact ⟨ae, ce, rfl, hm, he.1, he.2.2⟩
theorem str_self (s : ByteArray) : str s.data.toList = s := by simp [str]
theorem decM_none {s : ByteArray} {w : World} {n : Int} (hs : s.size ≤ 900000) (hK : KindsAt w) (h : decM s.data.toList n = none) :
    Calls Tryd.prog 15 #[.string s, .int .i64 n] w fun e w' => e = .returned (.tuple #[.agg (mailCells noM (.slice none 0 0)), .int .i64 30]) ∧ Below w.heap.size w w' :=
  (decodeM_any hs hK n).mono fun _ _ ⟨hb, h1, _⟩ => ⟨h1 h, hb⟩
theorem decM_yes {s : ByteArray} {w : World} {n : Int} {x : MNum × List Ent} (hs : s.size ≤ 900000) (hK : KindsAt w) (h : decM s.data.toList n = some x) :
    Calls Tryd.prog 15 #[.string s, .int .i64 n] w fun e w' => Below w.heap.size w w' ∧ ∃ a7 c7, e = .returned (.tuple #[.agg (mailCells x.1 (.slice a7 x.2.length c7)), .int .i64 0]) ∧
      EntsAt w'.heap.size w' (.slice a7 x.2.length c7) x.2 := by
  refine (decodeM_any hs hK n).mono ?_
  rintro e w' ⟨hb, _, h2⟩
  obtain ⟨a7, c7, he, h7⟩ := h2 _ h
  exact ⟨hb, a7, c7, he, ents_owned h7⟩
theorem same_nilM (w : World) : Calls Tryd.prog 13 #[.agg (mailCells noM (.slice none 0 0)), .agg #[.int .i64 0, .int .i64 0, .int .i64 0, .int .i64 0, .int .i64 0, .int .i64 0, .int .i64 0, .int .i64 0, .int .i64 0, .slice none 0 0, .int .i64 0, .int .i64 0, .int .i64 0, .int .i64 0, .int .i64 0, .int .i64 0, .int .i64 0, .int .i64 0]] w fun e w' => e = .returned (.bool true) ∧ Below w.heap.size w w' := by
  have := sameM (es := []) (B := w.heap.size) (B' := w.heap.size) noM (ents_none w.heap.size w none 0) (ents_none w.heap.size w none 0) (by simp)
  rw [List.length_nil] at this
  exact this

set_option maxRecDepth 100000 in
set_option maxHeartbeats 8000000 in
theorem mailBack_walk (m : MNum) (es : List Ent) (v : Value) (s : ByteArray) (n : Int) (_hs0 : s.size ≤ maxLen) (_hn : (Lit.int .i64 n).wf = true) (w : World) (hK : KindsAt w) (hM : MsgIn w v m es) :
    Calls Tryd.prog 5 #[v, .string s, .int .i64 n] w fun e w' => e = .returned (.bool true) ∧ Below w.heap.size w w' := by
  obtain ⟨ae, ce, rfl, hm, he, hoe⟩ := hM.parts
  clear hM
  obtain ⟨w1, e1, b1, s1, g1⟩ := boxed w (mailCells m (.slice ae es.length ce)) 28
  have E1 := Lib.hid e1
  have G1 := Lib.hid g1
  have hp := hK.pos
  have HKK := Lib.hid (fun (wx : World) (bx : Below w.heap.size w wx) => hK.below bx hp)
  have HW := Lib.hid (fun (wx : World) (bx : Below w.heap.size w wx) => works_any (hK.below bx hp))
  by_cases hl : 500 < es.length
  · have c9 := msg_cell g1 9 (.slice ae es.length ce) rfl
    clear he hK g1 e1
    go_enter Tryd.func5, Tryd.ntmps5
    go_upto_region 1 with fail
    (try rw [E1.out])
    go_wp2
    go_ret
    exact ⟨rfl, b1⟩
  · have d0 : decide ((500 : Int) < (es.length : Int)) = false := by rw [decide_eq_false_iff_not]; omega
    have c9 := msg_cell g1 9 (.slice ae es.length ce) rfl
    by_cases hs2 : 20000 < s.size
    · clear he hK g1 e1
      go_enter Tryd.func5, Tryd.ntmps5
      go_upto_region 1 with fail
      (try rw [E1.out])
      go_wp2
      go_ret
      exact ⟨rfl, b1⟩
    · have hs : s.size ≤ 900000 := by omega
      have HE := Lib.hid (he.below b1)
      have HN := Lib.hid hm
      have HOE := Lib.hid hoe
      have HX := Lib.hid (fun (wx : World) (bx : Below w.heap.size w wx) => encodeM_any m n (hK.below bx hp) (he.below bx) (by omega) hm hoe)
      have HC := Lib.hid (fun (wx : World) (bx : Below w.heap.size w wx) => checkM_any m n (hK.below bx hp) (he.below bx) (by omega))
      have HSM := Lib.hid (fun (a : Option Addr) (c : Nat) (wx : World) (bx : Below w.heap.size w wx) (B' : Nat) (hx : EntsAt B' wx (.slice a es.length c) es) => sameM m hx (he.below bx) (by omega))
      clear he hK g1 e1 hm hoe
      go_enter Tryd.func5, Tryd.ntmps5
      go_upto_region 1 with fail
      (try rw [E1.out])
      go_upto_region 3 with fail
      clear c9 hs2
      have r1 := msg_range G1.out
      cases hmy : mayM m es n with
      | false =>
        rw [hmy] at HX HC
        go_wp2_with (first | (refine load_midG (by rfl) _ _ rfl _ _ rfl _ _ r1 Tryd.underlying28 rfl (by kernel_rfl) ?_))
        refine (HX.out _ b1).mono ?_
        rw [if_neg (by decide), str_nil]
        rintro e w2 ⟨rfl, b2⟩
        have B2 := b1.trans (b2.mono b1.size)
        have s2 := b2.size
        clear r1
        have r2 := msg_range ((b2.block _ (by omega)).trans G1.out)
        rw [show errno false 2 = 2 from rfl] at HC ⊢
        go_wp2_with (first | (refine load_midG (by rfl) _ _ rfl _ _ rfl _ _ r2 Tryd.underlying28 rfl (by kernel_rfl) ?_))
        refine (HC.out _ B2).mono ?_
        rintro e w3 ⟨rfl, b3⟩
        have BX := b2.trans (b3.mono s2)
        clear r2
        have sx := BX.size
        have B1x := b1.trans (BX.mono b1.size)
        cases hd : decM s.data.toList n with
        | none =>
          have HD := Lib.hid (decM_none hs (HKK.out _ B1x) hd)
          clear hd
          go_wp2_with fail
          refine HD.out.mono ?_
          rintro e w6 ⟨rfl, b6⟩
          have s6 := b6.size
          obtain ⟨w7, e7, b7, s7, h7⟩ := fresh_msg w6 (mailCells noM (.slice none 0 0)) 28
          have n6 := World.alloc_heap_new w6 (.cells #[.int .i64 0, .int .i64 0, .int .i64 0, .int .i64 0, .int .i64 0, .int .i64 0, .int .i64 0, .int .i64 0, .int .i64 0, .slice none 0 0, .int .i64 0, .int .i64 0, .int .i64 0, .int .i64 0, .int .i64 0, .int .i64 0, .int .i64 0, .int .i64 0] 28)
          have E7 := Lib.hid e7
          have r7 := msg_range h7
          have HS := Lib.hid (same_nilM w7)
          clear e7 h7
          go_upto_region 13 with (refine wpList_store_row rfl _ _ (.tmp 61) rfl w6.heap.size (mailCells noM (.slice none 0 0)) rfl rfl _ _ n6 (by kernel_rfl) rfl (msg_one _ _ _ _) ?_; rw [E7.out])
          clear n6
          go_wp2_with (first | (refine load_midG (by rfl) _ _ rfl _ _ rfl _ _ r7 Tryd.underlying28 rfl (by kernel_rfl) ?_))
          refine HS.out.mono ?_
          rintro e w8 ⟨rfl, b8⟩
          clear r7
          have s8 := b8.size
          have B9 := B1x.trans ((b6.trans ((b7.mono s6).trans (b8.mono (by omega)))).mono B1x.size)
          go_wp2_with fail
          refine (HW.out _ B9).mono ?_
          rintro e w9 ⟨rfl, b9⟩
          go_wp2
          go_ret
          exact ⟨rfl, B9.trans (b9.mono B9.size)⟩
        | some x =>
          obtain ⟨hmx, hex, hox, hoe⟩ := decM_some hd
          have HD := Lib.hid (decM_yes hs (HKK.out _ B1x) hd)
          obtain ⟨xm, xe⟩ := x
          have HXM := Lib.hid (show mayM xm xe n = true from hmx)
          have HXE := Lib.hid (show str (encM xm xe) = s by rw [show encM xm xe = s.data.toList from hex]; exact str_self s)
          have HXO := Lib.hid (show MNumOk xm from hox)
          have HXA := Lib.hid (show EntsOk xe from hoe)
          have hxl := mayM_small HXM.out
          clear hd hmx hex hox hoe
          go_wp2_with fail
          refine HD.out.mono ?_
          rintro e w6 ⟨b6, a7, k7, rfl, he6⟩
          have s6 := b6.size
          obtain ⟨w7, e7, b7, s7, h7⟩ := fresh_msg w6 (mailCells xm (.slice a7 xe.length k7)) 28
          have n6 := World.alloc_heap_new w6 (.cells #[.int .i64 0, .int .i64 0, .int .i64 0, .int .i64 0, .int .i64 0, .int .i64 0, .int .i64 0, .int .i64 0, .int .i64 0, .slice none 0 0, .int .i64 0, .int .i64 0, .int .i64 0, .int .i64 0, .int .i64 0, .int .i64 0, .int .i64 0, .int .i64 0] 28)
          have E7 := Lib.hid e7
          have H7 := Lib.hid h7
          have r7 := msg_range h7
          have B7 := B1x.trans ((b6.trans (b7.mono s6)).mono B1x.size)
          have X7 := encodeM_any xm n (HKK.out _ B7) (he6.below b7) (by omega) HXO.out HXA.out
          rw [HXM.out, if_pos rfl, HXE.out] at X7
          have X7 := Lib.hid X7
          have HEX := Lib.hid (he6.below b7)
          clear e7 h7 he6
          go_upto_region 13 with (refine wpList_store_row rfl _ _ (.tmp 61) rfl w6.heap.size (mailCells xm (.slice a7 xe.length k7)) rfl rfl _ _ n6 (by kernel_rfl) rfl (msg_one _ _ _ _) ?_; rw [E7.out])
          clear n6
          go_wp2_with (first | (refine load_midG (by rfl) _ _ rfl _ _ rfl _ _ r7 Tryd.underlying28 rfl (by kernel_rfl) ?_))
          refine X7.out.mono ?_
          rintro e w8 ⟨rfl, b8⟩
          clear r7
          have s8 := b8.size
          have B8 := B7.trans (b8.mono B7.size)
          have r8 := msg_range ((b8.block _ (by omega)).trans H7.out)
          have X8 := checkM_any xm n (HKK.out _ B8) (HEX.out.below b8) (by omega)
          rw [HXM.out] at X8
          have X8 := Lib.hid X8
          rw [show errno true 2 = 0 from rfl] at X8 ⊢
          go_wp2_with (first | (refine load_midG (by rfl) _ _ rfl _ _ rfl _ _ r8 Tryd.underlying28 rfl (by kernel_rfl) ?_))
          refine X8.out.mono ?_
          rintro e w9 ⟨rfl, b9⟩
          clear r8
          have B9 := B8.trans (b9.mono B8.size)
          go_wp2_with fail
          refine (HW.out _ B9).mono ?_
          rintro e w10 ⟨rfl, b10⟩
          go_wp2
          go_ret
          exact ⟨rfl, B9.trans (b10.mono B9.size)⟩
      | true =>
        have hdd := dec_encM HN.out HOE.out hmy
        have hfew := encM_few hmy
        rw [hmy] at HX HC
        generalize hte : str (encM m es) = te at *
        have hte2 : te.data.toList = encM m es := by rw [← hte]; simp [str]
        have hsz : te.size ≤ 900000 := by rw [← hte, str_size]; omega
        have HDD := Lib.hid (fun (wx : World) (bx : Below w.heap.size w wx) => decM_yes hsz (HKK.out wx bx) (by rw [hte2]; exact hdd))
        have HTE := Lib.hid hte
        clear hmy hdd hfew hte hte2 hsz
        go_wp2_with (first | (refine load_midG (by rfl) _ _ rfl _ _ rfl _ _ r1 Tryd.underlying28 rfl (by kernel_rfl) ?_))
        refine (HX.out _ b1).mono ?_
        rw [if_pos trivial, HTE.out]
        rintro e w2 ⟨rfl, b2⟩
        have B2 := b1.trans (b2.mono b1.size)
        have s2 := b2.size
        clear r1
        have r2 := msg_range ((b2.block _ (by omega)).trans G1.out)
        rw [show errno true 2 = 0 from rfl] at HC ⊢
        go_wp2_with (first | (refine load_midG (by rfl) _ _ rfl _ _ rfl _ _ r2 Tryd.underlying28 rfl (by kernel_rfl) ?_))
        refine (HC.out _ B2).mono ?_
        rintro e w3 ⟨rfl, b3⟩
        clear r2
        have b13 := b2.trans (b3.mono s2)
        have B3 := b1.trans (b13.mono b1.size)
        have s3 := b13.size
        go_wp2_with fail
        refine (HDD.out _ B3).mono ?_
        rintro e w4 ⟨b4, a4, k4, rfl, he4⟩
        have b14 := b13.trans (b4.mono s3)
        have B4 := b1.trans (b14.mono b1.size)
        have s4 := b14.size
        obtain ⟨w5, e5, b5, s5, h5⟩ := fresh_msg w4 (mailCells m (.slice a4 es.length k4)) 28
        have n4 := World.alloc_heap_new w4 (.cells #[.int .i64 0, .int .i64 0, .int .i64 0, .int .i64 0, .int .i64 0, .int .i64 0, .int .i64 0, .int .i64 0, .int .i64 0, .slice none 0 0, .int .i64 0, .int .i64 0, .int .i64 0, .int .i64 0, .int .i64 0, .int .i64 0, .int .i64 0, .int .i64 0] 28)
        have E5 := Lib.hid e5
        have r5 := msg_range h5
        have b15 := b14.trans (b5.mono s4)
        have B5 := b1.trans (b15.mono b1.size)
        have s15 := b15.size
        have r6 := msg_range ((b15.block _ (by omega)).trans G1.out)
        have X5 := Lib.hid (HSM.out a4 k4 w5 B5 _ (he4.below b5))
        clear e5 h5 he4
        go_upto_region 8 with (refine wpList_store_row rfl _ _ (.tmp 41) rfl w4.heap.size (mailCells m (.slice a4 es.length k4)) rfl rfl _ _ n4 (by kernel_rfl) rfl (msg_one _ _ _ _) ?_; rw [E5.out])
        clear n4
        go_wp2_with (first | (refine load_midG (by rfl) _ _ rfl _ _ rfl _ _ r5 Tryd.underlying28 rfl (by kernel_rfl) ?_) | (refine load_midG (by rfl) _ _ rfl _ _ rfl _ _ r6 Tryd.underlying28 rfl (by kernel_rfl) ?_))
        refine X5.out.mono ?_
        rintro e w6 ⟨rfl, b6⟩
        have BX := b15.trans (b6.mono s15)
        clear r5 r6
        have sx := BX.size
        have B1x := b1.trans (BX.mono b1.size)
        cases hd : decM s.data.toList n with
        | none =>
          have HD := Lib.hid (decM_none hs (HKK.out _ B1x) hd)
          clear hd
          go_wp2_with fail
          refine HD.out.mono ?_
          rintro e w6 ⟨rfl, b6⟩
          have s6 := b6.size
          obtain ⟨w7, e7, b7, s7, h7⟩ := fresh_msg w6 (mailCells noM (.slice none 0 0)) 28
          have n6 := World.alloc_heap_new w6 (.cells #[.int .i64 0, .int .i64 0, .int .i64 0, .int .i64 0, .int .i64 0, .int .i64 0, .int .i64 0, .int .i64 0, .int .i64 0, .slice none 0 0, .int .i64 0, .int .i64 0, .int .i64 0, .int .i64 0, .int .i64 0, .int .i64 0, .int .i64 0, .int .i64 0] 28)
          have E7 := Lib.hid e7
          have r7 := msg_range h7
          have HS := Lib.hid (same_nilM w7)
          clear e7 h7
          go_upto_region 13 with (refine wpList_store_row rfl _ _ (.tmp 61) rfl w6.heap.size (mailCells noM (.slice none 0 0)) rfl rfl _ _ n6 (by kernel_rfl) rfl (msg_one _ _ _ _) ?_; rw [E7.out])
          clear n6
          go_wp2_with (first | (refine load_midG (by rfl) _ _ rfl _ _ rfl _ _ r7 Tryd.underlying28 rfl (by kernel_rfl) ?_))
          refine HS.out.mono ?_
          rintro e w8 ⟨rfl, b8⟩
          clear r7
          have s8 := b8.size
          have B9 := B1x.trans ((b6.trans ((b7.mono s6).trans (b8.mono (by omega)))).mono B1x.size)
          go_wp2_with fail
          refine (HW.out _ B9).mono ?_
          rintro e w9 ⟨rfl, b9⟩
          go_wp2
          go_ret
          exact ⟨rfl, B9.trans (b9.mono B9.size)⟩
        | some x =>
          obtain ⟨hmx, hex, hox, hoe⟩ := decM_some hd
          have HD := Lib.hid (decM_yes hs (HKK.out _ B1x) hd)
          obtain ⟨xm, xe⟩ := x
          have HXM := Lib.hid (show mayM xm xe n = true from hmx)
          have HXE := Lib.hid (show str (encM xm xe) = s by rw [show encM xm xe = s.data.toList from hex]; exact str_self s)
          have HXO := Lib.hid (show MNumOk xm from hox)
          have HXA := Lib.hid (show EntsOk xe from hoe)
          have hxl := mayM_small HXM.out
          clear hd hmx hex hox hoe
          go_wp2_with fail
          refine HD.out.mono ?_
          rintro e w6 ⟨b6, a7, k7, rfl, he6⟩
          have s6 := b6.size
          obtain ⟨w7, e7, b7, s7, h7⟩ := fresh_msg w6 (mailCells xm (.slice a7 xe.length k7)) 28
          have n6 := World.alloc_heap_new w6 (.cells #[.int .i64 0, .int .i64 0, .int .i64 0, .int .i64 0, .int .i64 0, .int .i64 0, .int .i64 0, .int .i64 0, .int .i64 0, .slice none 0 0, .int .i64 0, .int .i64 0, .int .i64 0, .int .i64 0, .int .i64 0, .int .i64 0, .int .i64 0, .int .i64 0] 28)
          have E7 := Lib.hid e7
          have H7 := Lib.hid h7
          have r7 := msg_range h7
          have B7 := B1x.trans ((b6.trans (b7.mono s6)).mono B1x.size)
          have X7 := encodeM_any xm n (HKK.out _ B7) (he6.below b7) (by omega) HXO.out HXA.out
          rw [HXM.out, if_pos rfl, HXE.out] at X7
          have X7 := Lib.hid X7
          have HEX := Lib.hid (he6.below b7)
          clear e7 h7 he6
          go_upto_region 13 with (refine wpList_store_row rfl _ _ (.tmp 61) rfl w6.heap.size (mailCells xm (.slice a7 xe.length k7)) rfl rfl _ _ n6 (by kernel_rfl) rfl (msg_one _ _ _ _) ?_; rw [E7.out])
          clear n6
          go_wp2_with (first | (refine load_midG (by rfl) _ _ rfl _ _ rfl _ _ r7 Tryd.underlying28 rfl (by kernel_rfl) ?_))
          refine X7.out.mono ?_
          rintro e w8 ⟨rfl, b8⟩
          clear r7
          have s8 := b8.size
          have B8 := B7.trans (b8.mono B7.size)
          have r8 := msg_range ((b8.block _ (by omega)).trans H7.out)
          have X8 := checkM_any xm n (HKK.out _ B8) (HEX.out.below b8) (by omega)
          rw [HXM.out] at X8
          have X8 := Lib.hid X8
          rw [show errno true 2 = 0 from rfl] at X8 ⊢
          go_wp2_with (first | (refine load_midG (by rfl) _ _ rfl _ _ rfl _ _ r8 Tryd.underlying28 rfl (by kernel_rfl) ?_))
          refine X8.out.mono ?_
          rintro e w9 ⟨rfl, b9⟩
          clear r8
          have B9 := B8.trans (b9.mono B8.size)
          go_wp2_with fail
          refine (HW.out _ B9).mono ?_
          rintro e w10 ⟨rfl, b10⟩
          go_wp2
          go_ret
          exact ⟨rfl, B9.trans (b10.mono B9.size)⟩
end Go.Proofs.YtnekpehgaojkaaaDoor
