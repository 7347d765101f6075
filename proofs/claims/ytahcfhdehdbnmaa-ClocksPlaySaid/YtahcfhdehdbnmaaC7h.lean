/- Walk of layer 7: ClocksSkew. -/
import Derived.Test.YtahcfhdehdbnmaaC7g
import Derived.IntWalk
namespace Go.Proofs.Ytahcfhdehdbnmaa
open Go.RowKit

theorem skew_is {n : Nat} {z : Nat → Int} (h : 1 ≤ n) : ∃ a b, a < n ∧ b < n ∧ z a - z b = skew n z := by
  obtain ⟨a, ha, ea⟩ := maxTo_is z (n - 1)
  obtain ⟨b, hb, eb⟩ := minTo_is z (n - 1)
  exact ⟨a, b, by omega, by omega, by unfold skew; omega⟩
/-- Of the pairs ahead of (a, b) none is s apart. -/
def NonePair (n : Nat) (z : Nat → Int) (s : Int) (a b : Nat) : Prop := (∀ a', a' < a → ∀ b', b' < n → z a' - z b' ≠ s) ∧ ∀ b', b' < b → z a - z b' ≠ s
theorem pair_row {n : Nat} {z : Nat → Int} {s : Int} {a : Nat} (h : NonePair n z s a n) : NonePair n z s (a + 1) 0 :=
  ⟨fun a' ha b' hb => by
    by_cases e : a' = a
    · subst e; exact h.2 b' hb
    · exact h.1 a' (by omega) b' hb, fun b' hb => absurd hb (Nat.not_lt_zero _)⟩
theorem pair_start (n : Nat) (z : Nat → Int) (s : Int) : NonePair n z s 0 0 := ⟨fun _ ha => absurd ha (Nat.not_lt_zero _), fun _ hb => absurd hb (Nat.not_lt_zero _)⟩
theorem pair_more {n : Nat} {z : Nat → Int} {s : Int} {a b : Nat} (h : NonePair n z s a b) (hne : z a - z b ≠ s) : NonePair n z s a (b + 1) :=
  ⟨h.1, fun b' hb => by
    by_cases e : b' = b
    · subst e; exact hne
    · exact h.2 b' (by omega)⟩
theorem pair_end {n : Nat} {z : Nat → Int} (hn : 1 ≤ n) (h : NonePair n z (skew n z) n 0) : False := by
  obtain ⟨a, b, ha, hb, e⟩ := skew_is (z := z) hn
  exact h.1 a ha b hb e
theorem wrap_in (n : Int) (h : -9223372036854775808 ≤ n ∧ n ≤ 9223372036854775807) : IntKind.i64.wrap n = n := IntWalk.i64_in n h
theorem mod_site (y n : Nat) : (y : Int) % n = ((y % n : Nat) : Int) := by rw [Int.natCast_emod]

set_option maxRecDepth 100000 in
set_option maxHeartbeats 4000000 in
theorem clocksSkew_walk (x : Int) (l : List Int) (v : Value) (hx : (Lit.int .u8 x).wf = true) (hl : ∀ n ∈ l, (Lit.int .u8 n).wf = true) (w : World) (hv : IntsIn .u8 w v l) :
    Calls Try.prog 6 #[.int .u8 x, v] w fun e w' => e = .returned (.bool true) ∧ Below w.heap.size w w' := by
  obtain ⟨⟨ad, cap, rfl, hc⟩, hnil⟩ := hv
  clear hnil
  obtain ⟨hx0, hx1⟩ := u8_bounds hx
  obtain ⟨n, hn2, hn7, hn⟩ := many_sites (x := x)
  have HN := Lib.hid hn
  have HC := Lib.hid hc
  have HL := Lib.hid hl
  clear hx hn hc hl
  by_cases hk : l.length ≤ 1000
  · have d1 : decide ((1000 : Int) < (l.length : Int)) = false := by rw [decide_eq_false_iff_not]; omega
    have X0 := Lib.hid (new_yes n hn2 hn7 w)
    generalize hB : w.heap.size = B at *
    have HB := Lib.hid hB
    clear hB
    go_enter Try.func6, Try.ntmps6
    go_wp2_with fail
    rw [HN.out]
    refine X0.out.mono ?_
    rintro e w1 ⟨rfl, b1, s1, h1⟩
    have XS := Lib.hid (skew_ups (c := newClk n) hn2 hn7 (ups_new n) (by omega) h1)
    rw [skew_flat (z := (newClk n).a) (i := 0) (show 1 ≤ (newClk n).n by show 1 ≤ n; omega) (fun _ _ => rfl)] at XS
    have H1 := Lib.hid h1
    clear X0 h1
    go_wp2_with fail
    refine XS.out.mono ?_
    rintro e w2 ⟨rfl, q, rfl⟩
    go_wp2_with fail
    refine (worst_in (c := newClk n) hn2 (clkAt_drawn H1.out)).mono ?_
    rw [show (newClk n).worst = 0 from rfl]
    rintro e w2 ⟨rfl, rfl⟩
    go_wp2_with fail
    go_loopw [8, 9] (fun m p wr => ∃ (i : Nat) (c : Clk), i ≤ l.length ∧ p = .int .i64 i ∧ m = .int .i64 c.worst ∧ Below B w wr ∧ B < wr.heap.size ∧ clkAt wr B c ∧ c.n = n ∧ Ups c i) (fun _ p _ => l.length - (intOf p).toNat)
    case atStart => exact ⟨0, newClk n, by omega, rfl, rfl, below_drewN b1 q, by show B < w1.heap.size; omega, clkAt_drawn H1.out, rfl, ups_new n⟩
    case round =>
      obtain ⟨i, c, hi, rfl, rfl, hB, hBs, hc, rfl, hu⟩ := hrel
      by_cases hlt : i < l.length
      · obtain ⟨b, off, rfl, hbl, hcell⟩ := HC.out (fun h => by rw [h] at hlt; simp at hlt)
        have hy := u8_bounds (HL.out _ (List.getElem_mem hlt))
        obtain ⟨y, hy2⟩ : ∃ y : Nat, l[i] = (y : Int) := ⟨l[i].toNat, by omega⟩
        have hbB : b < B := by have := HB.out; omega
        have hyc : wr.cell? ⟨b, off + i, none⟩ = some (.int .u8 (y : Int)) := by rw [hB.cell (p := ⟨b, off + i, none⟩) hbB, hcell i hlt, hy2]
        have hy255 : y ≤ 255 := by omega
        have hsl : y % c.n < c.n := Nat.mod_lt _ (by omega)
        have XT := Lib.hid (tick_ups hn2 hn7 hu (by omega) (y % c.n) hsl hc)
        have HU := Lib.hid (ups_tick hu (y % c.n) hsl)
        have ES := Lib.hid (mod_site y c.n)
        clear hy hy2 hcell hc hu
        go_wp2_with fail
        rw [ES.out]
        refine XT.out.mono ?_
        rintro e w3 ⟨rfl, g3, h3⟩
        have B3 := hB.grown g3 (by omega) (fun k hk => by cases hk; exact Nat.le_refl _)
        have s3 := g3.size
        have HW := Lib.hid (show (c.tick (y % c.n)).worst = worse c.worst (skew (c.tick (y % c.n)).n (c.tick (y % c.n)).a) from rfl)
        have HD := Lib.hid (show c.n = (c.tick (y % c.n)).n from rfl)
        have XA := Lib.hid (all_any (c := c.tick (y % c.n)) hn2 hn7 h3)
        have H3 := Lib.hid h3
        clear g3 h3 XT hyc
        generalize c.tick (y % c.n) = d at *
        rw [← HD.out] at XA
        go_wp2_with fail
        refine XA.out.mono ?_
        rintro e w4 ⟨g, cp, rfl, hg1, hg2, hcells, b4⟩
        have B4 := B3.trans (b4.mono (by omega))
        have H4 : Hid (clkAt w4 B d) := (b4.block B (by omega)).trans H3.out
        have XS := Lib.hid (skew_ups (by rw [← HD.out]; exact hn2) (by rw [← HD.out]; exact hn7) HU.out (by omega) H4.out)
        have hsf := Lib.hid (fun a b (ha : a < c.n) (hb : b < c.n) => skew_far (n := d.n) (z := d.a) a b (by rw [← HD.out]; exact ha) (by rw [← HD.out]; exact hb))
        have hse := Lib.hid (fun h => pair_end (n := d.n) (z := d.a) (by rw [← HD.out]; omega) h)
        have hz := Lib.hid (fun a (ha : a < c.n) => HU.out a (by rw [← HD.out]; exact ha))
        have HG := Lib.hid hcells
        rw [← HD.out] at HG hse
        clear hcells XA b4
        generalize hsk : skew d.n d.a = sk at *
        have HSK := Lib.hid hsk
        clear hsk
        rw [← HD.out] at HSK
        go_wp2_with fail
        rw [← HD.out]
        refine XS.out.mono ?_
        rintro e w5 ⟨rfl, q5, rfl⟩
        go_wp2_with fail
        go_loopw [13, 14] (fun t p wr => ∃ (a : Nat) (is : Bool) (q : Nat), a ≤ c.n ∧ p = .int .i64 a ∧ t = .bool is ∧ wr = w4.drewN q ∧ (is = true ∨ NonePair c.n d.a sk a 0)) (fun _ p _ => c.n - (intOf p).toNat)
        case atStart => exact ⟨0, false, q5, by omega, rfl, rfl, rfl, .inr (pair_start _ _ _)⟩
        case round =>
          obtain ⟨a, is, q6, ha, rfl, rfl, rfl, hN⟩ := hrel
          have HN1 := Lib.hid hN
          clear hN
          by_cases hlt2 : a < c.n
          · go_wp2_with fail
            go_loopw [13, 15] (fun t p wr => ∃ (b : Nat) (is : Bool) (q : Nat), b ≤ c.n ∧ p = .int .i64 b ∧ t = .bool is ∧ wr = w4.drewN q ∧ (is = true ∨ NonePair c.n d.a sk a b)) (fun _ p _ => c.n - (intOf p).toNat)
            case atStart => exact ⟨0, is, q6, by omega, rfl, rfl, rfl, HN1.out⟩
            case round =>
              obtain ⟨b', is2, q7, hb, rfl, rfl, rfl, hN⟩ := hrel
              have HN2 := Lib.hid hN
              clear hN
              by_cases hlt3 : b' < c.n
              · have ca : w4.cell? ⟨g, a, none⟩ = some (.int .i64 (d.a a)) := HG.out a hlt2
                have cb : w4.cell? ⟨g, b', none⟩ = some (.int .i64 (d.a b')) := HG.out b' hlt3
                have hf := hsf.out a b' hlt2 hlt3
                have z1 := hz.out a hlt2
                have z2 := hz.out b' hlt3
                have i1 : (0 : Int) ≤ a := by omega
                have i2 : (a : Int) < c.n := by omega
                have i3 : (0 : Int) ≤ b' := by omega
                have i4 : (b' : Int) < c.n := by omega
                have ew := wrap_in (d.a a - d.a b') (by omega)
                have df : decide (sk < d.a a - d.a b') = false := by rw [decide_eq_false_iff_not]; omega
                cases is2 with
                | true =>
                  go_wp2_with fail
                  go_quiet (fail)
                  go_wp2_with fail
                  go_quiet (fail)
                  clear ew df
                  go_wp2_with fail
                  go_roundw
                  case rel => exact ⟨b' + 1, true, _, by omega, by go_num, rfl, rfl, .inl rfl⟩
                  case measure => simp [intOf]; omega
                | false =>
                  by_cases heq : d.a a - d.a b' = sk
                  · have de : (d.a a - d.a b' == sk) = true := by rw [beq_iff_eq]; exact heq
                    clear heq
                    go_wp2_with fail
                    go_quiet (fail)
                    go_wp2_with fail
                    go_quiet (fail)
                    clear ew df
                    go_wp2_with fail
                    go_roundw
                    case rel => exact ⟨b' + 1, true, _, by omega, by go_num, rfl, rfl, .inl rfl⟩
                    case measure => simp [intOf]; omega
                  · have HNE := Lib.hid (HN2.out.elim (fun h => by cases h) (fun h => pair_more h heq))
                    have de : (d.a a - d.a b' == sk) = false := by rw [beq_eq_false_iff_ne]; exact heq
                    clear heq
                    go_wp2_with fail
                    go_quiet (fail)
                    go_wp2_with fail
                    go_quiet (fail)
                    clear ew df
                    go_wp2_with fail
                    go_roundw
                    case rel => exact ⟨b' + 1, false, _, by omega, by go_num, rfl, rfl, .inr HNE.out⟩
                    case measure => simp [intOf]; omega
              · obtain rfl : b' = c.n := by omega
                have HNE := Lib.hid (HN2.out.imp_right pair_row)
                go_wp2_with fail
                go_roundw
                case rel => exact ⟨a + 1, is2, q7, by omega, by go_num, rfl, rfl, HNE.out⟩
                case measure => simp [intOf]; omega
          · obtain rfl : a = c.n := by omega
            cases is with
            | false => exact (HN1.out.elim (fun h => by cases h) (fun h => hse.out (by rw [HSK.out]; exact h))).elim
            | true =>
              have XW := Lib.hid (worst_in (c := d) (by rw [← HD.out]; exact hn2) (clkAt_drawn (d := q6) H4.out))
              by_cases hws : c.worst < sk
              · have EW := Lib.hid (show d.worst = sk by rw [HW.out]; exact if_pos hws)
                rw [EW.out] at XW
                go_wp2_with fail
                refine XW.out.mono ?_
                rintro e w6 ⟨rfl, rfl⟩
                go_wp2_with fail
                go_roundw
                case rel => exact ⟨i + 1, d, by omega, by go_num, by rw [EW.out], below_drewN B4 q6, by show B < w4.heap.size; omega, clkAt_drawn H4.out, HD.out.symm, HU.out⟩
                case measure => simp [intOf]; omega
              · have EW := Lib.hid (show d.worst = c.worst by rw [HW.out]; exact if_neg hws)
                rw [EW.out] at XW
                go_wp2_with fail
                refine XW.out.mono ?_
                rintro e w6 ⟨rfl, rfl⟩
                go_wp2_with fail
                go_roundw
                case rel => exact ⟨i + 1, d, by omega, by go_num, by rw [EW.out], below_drewN B4 q6, by show B < w4.heap.size; omega, clkAt_drawn H4.out, HD.out.symm, HU.out⟩
                case measure => simp [intOf]; omega
      · obtain rfl : i = l.length := by omega
        clear hc hu
        go_wp2_with fail
        refine (works_any _).mono ?_
        rintro e w4 ⟨rfl, b4⟩
        go_wp2
        go_ret
        exact ⟨rfl, (hB.trans (b4.mono (by omega))).mono (by have := HB.out; omega)⟩
  · go_enter Try.func6, Try.ntmps6
    go_wp2
    go_ret
    exact ⟨rfl, Below.refl _ _⟩
end Go.Proofs.Ytahcfhdehdbnmaa
