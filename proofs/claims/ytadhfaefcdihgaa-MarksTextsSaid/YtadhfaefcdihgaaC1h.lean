/- The walks of MarksTexts and MarksWay. -/
import Derived.Test.YtadhfaefcdihgaaC1g
import Derived.BigQuiet
import Derived.WalkSmall
import Derived.Deep.RegionWith
import Derived.Lib.QuietBelow
namespace Go.Proofs.Ytadhfaefcdihgaa
open Go.RowKit

set_option maxRecDepth 100000 in
set_option maxHeartbeats 1000000 in
theorem marksTexts_walk (t s : ByteArray) (a : Int) (_ht : t.size ≤ maxLen) (hs : s.size ≤ maxLen) (_ha : (Lit.int .i64 a).wf = true) (hr : t.size ≤ 140737488351232) (w : World) :
    Calls Try.prog 6 #[.string t, .string s, .int .i64 a] w fun e w' => e = .returned (.bool true) ∧ Below w.heap.size w w' := by
  have Hs := Lib.hid hs
  clear hs
  generalize hg : getT s.data.toList a = g
  have H1 := Lib.hid (getText_any s Hs.out a)
  have H2 := Lib.hid (refGetText_any s Hs.out a)
  rw [hg] at H1 H2
  clear hg
  have hl : (str (Marks.put (t.size : Int))).size ≤ 10 := by rw [str_size]; exact (Marks.put_len _).2
  have P1 := Lib.hid (putText_any t (by omega))
  have P2 := Lib.hid (refPutText_any t (by omega))
  obtain ⟨x, hx⟩ : ∃ x, str (gotT g) = x := ⟨_, rfl⟩
  obtain ⟨y, hy⟩ : ∃ y, gotTX g = y := ⟨_, rfl⟩
  obtain ⟨z, hz⟩ : ∃ z, g.isSome = z := ⟨_, rfl⟩
  rw [hx, hy, hz] at H1 H2
  clear hx hy hz
  generalize str (putT t.data.toList) = p at *
  go_enter Try.func6, Try.ntmps6
  go_wp2_with fail
  refine (H1.out _).mono ?_
  rintro e w1 ⟨rfl, rfl⟩
  go_wp2_with fail
  refine (H2.out _).mono ?_
  rintro e w2 ⟨rfl, hb2⟩
  go_wp2_with fail
  refine (P1.out _).mono ?_
  rintro e w3 ⟨rfl, hb3⟩
  have hc3 := hb2.trans (hb3.mono hb2.size)
  clear hb2 hb3
  go_wp2_with fail
  refine (P2.out _).mono ?_
  rintro e w4 ⟨rfl, hb4⟩
  have hc4 := hc3.trans (hb4.mono hc3.size)
  clear hc3 hb4
  go_wp2_with fail
  refine (works_any _).mono ?_
  rintro e w5 ⟨rfl, hb5⟩
  go_wp2
  go_ret
  exact ⟨rfl, hc4.trans (hb5.mono hc4.size)⟩

set_option maxRecDepth 100000 in
set_option maxHeartbeats 1000000 in
theorem marksWay_walk (s : ByteArray) (a : Int) (hs : s.size ≤ maxLen) (_ha : (Lit.int .i64 a).wf = true) (w : World) :
    Calls Try.prog 8 #[.string s, .int .i64 a] w fun e w' => e = .returned (.bool true) ∧ Below w.heap.size w w' := by
  have Hs := Lib.hid hs
  have hsz := bytes_len s
  cases hg : getI s.data.toList a with
  | none =>
    have H1 := Lib.hid (get_no Hs.out hg)
    have H2 := Lib.hid (getText_no Hs.out (getT_no (getC_none hg)))
    clear hg hs
    go_enter Try.func8, Try.ntmps8
    go_wp2_with fail
    refine (H1.out _).mono ?_
    rintro e w1 ⟨rfl, rfl⟩
    go_wp2_with fail
    go_quiet (fail)
    go_wp2_with fail
    refine (H2.out _).mono ?_
    rintro e w1 ⟨rfl, rfl⟩
    go_wp2_with fail
    go_quiet (fail)
    go_wp2_with fail
    refine (works_any _).mono ?_
    rintro e w5 ⟨rfl, hb5⟩
    go_wp2
    go_ret
    exact ⟨rfl, (below_drewN (Below.refl w.heap.size w) _).trans hb5⟩
  | some x =>
    obtain ⟨n, m⟩ := x
    obtain ⟨h1, h2, h3, h4, h5, h6, h7⟩ := getI_bounds hg
    obtain ⟨b, rfl⟩ := Int.eq_ofNat_of_zero_le h1
    rw [Int.toNat_natCast] at h7
    have hmb : b + (m - b) = m := by omega
    have hex : s.extract b m = str (Marks.put n) := by
      have := extract_str s b (m - b)
      rw [hmb, h7] at this; exact this
    have hsl : ∀ w' : World, (Instr.slice 9 (.string s) (some (.int .i64 (b : Int))) (some (.int .i64 (m : Int))) none).run Try.prog w' = .ok (.string (str (Marks.put n))) w' := fun w' => by
      rw [← hex]; exact slice_str (P := Try.prog) 9 Try.underlying9 s b m (by omega) (by rw [← hsz]; exact h4) (b : Int) (m : Int) rfl rfl w'
    have H1 := Lib.hid (get_yes Hs.out hg)
    have P1 := Lib.hid (put_any n h5 h6)
    have h2' : b < m := by omega
    have h4' : m ≤ s.size := by rw [← hsz]; exact h4
    rcases getC_cases s.data.toList b with ⟨k, m', hc, hmk, hg'⟩ | hc
    · have e := hg.symm.trans hg'
      simp only [Option.some.injEq, Prod.mk.injEq] at e
      obtain ⟨rfl, rfl⟩ := e
      rw [hsz] at hmk
      have hlk : ((s.data.toList.drop m).take k).length = k := by rw [List.length_take, List.length_drop, hsz]; omega
      have hpt : putT ((s.data.toList.drop m).take k) = (s.data.toList.drop b).take (m - b + k) := by
        unfold putT
        rw [hlk, ← h7, List.take_add, List.drop_drop, show b + (m - b) = m by omega]
      have hex2 : s.extract b (m + k) = str (putT ((s.data.toList.drop m).take k)) := by
        have := extract_str s b (m - b + k)
        rw [show b + (m - b + k) = m + k by omega, ← hpt] at this; exact this
      have hsl2 : ∀ w' : World, (Instr.slice 9 (.string s) (some (.int .i64 (b : Int))) (some (.int .i64 ((m + k : Nat) : Int))) none).run Try.prog w' = .ok (.string (str (putT ((s.data.toList.drop m).take k)))) w' := fun w' => by
        rw [← hex2]; exact slice_str (P := Try.prog) 9 Try.underlying9 s b (m + k) (by omega) hmk (b : Int) ((m + k : Nat) : Int) rfl rfl w'
      have H2 := Lib.hid (getText_yes (t := str ((s.data.toList.drop m).take k)) Hs.out (getT_yes hc))
      have hpl : (str (Marks.put (k : Int))).size = m - b := by
        rw [str_size, ← h7, List.length_take, List.length_drop, hsz]; omega
      have hsk : (str ((s.data.toList.drop m).take k)).size = k := by rw [str_size, hlk]
      have P2 := Lib.hid (putText_any (str ((s.data.toList.drop m).take k)) (by rw [hsk, hpl]; unfold maxLen at hs; omega))
      rw [str_list] at P2
      clear hg hs h1 h2 h3 h4 h5 h6 h7 hmb hex hc hsz hg' hlk hpt hex2 hpl hsk
      generalize str (putT ((s.data.toList.drop m).take k)) = p2 at *
      generalize str ((s.data.toList.drop m).take k) = t at *
      generalize str (Marks.put (k : Int)) = p at *
      obtain ⟨last, hlast⟩ : ∃ last, m + k = last := ⟨_, rfl⟩
      have hl1 : m ≤ last := by omega
      have hl2 : last ≤ s.size := by omega
      rw [hlast] at H2 hsl2
      clear hlast hmk
      go_enter Try.func8, Try.ntmps8
      go_wp2_with fail
      refine (H1.out _).mono ?_
      rintro e w1 ⟨rfl, rfl⟩
      go_wp2_with fail
      refine wp_region_quiet_below (by kernel_rfl) (by kernel_rfl) ?_
      repeat (first | go_big_quiet_step ((go_at_call 11; exact Calls.regrown_of (P1.out _))) | quiet_step ((go_at_call 11; exact Calls.regrown_of (P1.out _))))
      refine wpQuiet_nil ?_
      intro _ hw'
      obtain ⟨⟨dq, osq⟩, hw''⟩ := hw'
      subst hw''
      have hb1 := below_regrown w dq osq
      generalize Sort.grow (redrawn w dq) osq = wq at *
      go_wp2_with fail
      refine (H2.out _).mono ?_
      rintro e w1 ⟨rfl, rfl⟩
      go_wp2_with fail
      refine wp_region_quiet_below (by kernel_rfl) (by kernel_rfl) ?_
      repeat (first | go_big_quiet_step ((go_at_call 18; exact Calls.regrown_of (P2.out _))) | quiet_step ((go_at_call 18; exact Calls.regrown_of (P2.out _))))
      refine wpQuiet_nil ?_
      intro _ hw'
      obtain ⟨⟨dq2, osq2⟩, hw''⟩ := hw'
      subst hw''
      have hb2 := below_regrown wq dq2 osq2
      generalize Sort.grow (redrawn wq dq2) osq2 = wq2 at *
      have hc2 := hb1.trans (hb2.mono hb1.size)
      go_wp2_with fail
      refine (works_any _).mono ?_
      rintro e w5 ⟨rfl, hb5⟩
      go_wp2
      go_ret
      exact ⟨rfl, hc2.trans (hb5.mono hc2.size)⟩
    · have H2 := Lib.hid (getText_no Hs.out (getT_no hc))
      clear hg hs h1 h2 h3 h4 h5 h6 h7 hmb hex hc hsz
      generalize str (Marks.put n) = p at *
      go_enter Try.func8, Try.ntmps8
      go_wp2_with fail
      refine (H1.out _).mono ?_
      rintro e w1 ⟨rfl, rfl⟩
      go_wp2_with fail
      refine wp_region_quiet_below (by kernel_rfl) (by kernel_rfl) ?_
      repeat (first | go_big_quiet_step ((go_at_call 11; exact Calls.regrown_of (P1.out _))) | quiet_step ((go_at_call 11; exact Calls.regrown_of (P1.out _))))
      refine wpQuiet_nil ?_
      intro _ hw'
      obtain ⟨⟨dq, osq⟩, hw''⟩ := hw'
      subst hw''
      have hb1 := below_regrown w dq osq
      generalize Sort.grow (redrawn w dq) osq = wq at *
      go_wp2_with fail
      refine (H2.out _).mono ?_
      rintro e w1 ⟨rfl, rfl⟩
      go_wp2_with fail
      go_quiet (fail)
      go_wp2_with fail
      refine (works_any _).mono ?_
      rintro e w5 ⟨rfl, hb5⟩
      go_wp2
      go_ret
      exact ⟨rfl, (below_drewN hb1 _).trans (hb5.mono hb1.size)⟩
end Go.Proofs.Ytadhfaefcdihgaa
