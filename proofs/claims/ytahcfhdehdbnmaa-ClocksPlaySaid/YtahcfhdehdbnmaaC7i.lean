/- Walk of layer 7: ClocksOne. -/
import Derived.Test.YtahcfhdehdbnmaaC7h
namespace Go.Proofs.Ytahcfhdehdbnmaa
open Go.RowKit

def sumTo (a : Nat → Int) : Nat → Int
  | 0 => 0
  | k + 1 => sumTo a k + a k
theorem sum_bound (a : Nat → Int) : ∀ k, (∀ j, j < k → 0 ≤ a j ∧ a j ≤ 1001) → 0 ≤ sumTo a k ∧ sumTo a k ≤ 1001 * k
  | 0, _ => by simp [sumTo]
  | k + 1, h => by
    have h1 := sum_bound a k (fun j hj => h j (by omega))
    have h2 := h k (by omega)
    simp only [sumTo]
    omega
theorem sum_upd (a : Nat → Int) (s : Nat) : ∀ k, sumTo (upd a s (a s + 1)) k = sumTo a k + if s < k then 1 else 0
  | 0 => by simp [sumTo]
  | k + 1 => by
    have h1 := sum_upd a s k
    simp only [sumTo, upd]
    rw [h1]
    by_cases e : k = s
    · subst e
      rw [if_pos rfl, if_neg (by omega), if_pos (by omega)]; omega
    · rw [if_neg e]
      by_cases h : s < k
      · rw [if_pos h, if_pos (by omega)]; omega
      · rw [if_neg h, if_neg (by omega)]; omega
theorem sum_new (n : Nat) : sumTo (newClk n).a n = 0 := by
  have : ∀ k, sumTo (fun _ => (0 : Int)) k = 0 := by
    intro k
    induction k with
    | zero => rfl
    | succ k ih => simp [sumTo, ih]
  exact this n
/-- A tick moves the skew by one at most. -/
theorem skew_tick {n : Nat} {z : Nat → Int} (h1 : 1 ≤ n) (s : Nat) : skew n (upd z s (z s + 1)) ≤ skew n z + 1 ∧ skew n z - 1 ≤ skew n (upd z s (z s + 1)) := by
  have hu : ∀ j, z j ≤ upd z s (z s + 1) j ∧ upd z s (z s + 1) j ≤ z j + 1 := by
    intro j
    unfold upd
    split
    · rename_i e; subst e; omega
    · omega
  obtain ⟨a, b, ha, hb, e⟩ := skew_is (z := z) h1
  obtain ⟨a', b', ha', hb', e'⟩ := skew_is (z := upd z s (z s + 1)) h1
  have f1 := skew_far (z := z) a' b' ha' hb'
  have f2 := skew_far (z := upd z s (z s + 1)) a b ha hb
  have u1 := hu a
  have u2 := hu b
  have u3 := hu a'
  have u4 := hu b'
  omega
theorem skew_bound {c : Clk} {m : Nat} (hn : 1 ≤ c.n) (h : Ups c m) : 0 ≤ skew c.n c.a ∧ skew c.n c.a ≤ m := by
  obtain ⟨a, b, ha, hb, e⟩ := skew_is (z := c.a) hn
  have h1 := h a ha
  have h2 := h b hb
  have h3 := skew_far (z := c.a) a a ha ha
  omega
theorem worse_le (a b : Int) : b ≤ worse a b := by unfold worse; split <;> omega

/-- How far the law's loop has come. -/
def OneAt (l : List Int) (n B : Nat) (w wr : World) (done : Value) (i : Nat) (c : Clk) : Prop :=
  i ≤ l.length ∧ done = .int .i64 (sumTo c.a n) ∧ sumTo c.a n ≤ i ∧ Below B w wr ∧ B < wr.heap.size ∧ clkAt wr B c ∧ c.n = n ∧ Ups c i ∧ skew c.n c.a ≤ c.worst

set_option maxRecDepth 100000 in
set_option maxHeartbeats 8000000 in
theorem clocksOne_walk (x : Int) (l : List Int) (v : Value) (_ : (Lit.int .u8 x).wf = true) (_ : ∀ n ∈ l, (Lit.int .i64 n).wf = true) (w : World) (hv : IntsIn .i64 w v l) :
    Calls Try.prog 5 #[.int .u8 x, v] w fun e w' => e = .returned (.bool true) ∧ Below w.heap.size w w' := by
  obtain ⟨⟨ad, cap, rfl, hc⟩, hnil⟩ := hv
  clear hnil
  obtain ⟨n, hn2, hn7, hn⟩ := many_sites (x := x)
  have hx : 0 ≤ x ∧ x ≤ 255 := u8_bounds (by assumption)
  obtain ⟨hx0, hx1⟩ := hx
  have HN := Lib.hid hn
  have HC := Lib.hid hc
  clear hn hc
  by_cases hk : l.length ≤ 1000
  · have d1 : decide ((1000 : Int) < (l.length : Int)) = false := by rw [decide_eq_false_iff_not]; omega
    have X0 := Lib.hid (new_yes n hn2 hn7 w)
    generalize hB : w.heap.size = B at *
    have HB := Lib.hid hB
    clear hB
    rename_i hw1 hw2
    clear hw1 hw2
    go_enter Try.func5, Try.ntmps5
    go_wp2_with fail
    rw [HN.out]
    refine X0.out.mono ?_
    rintro e w1 ⟨rfl, b1, s1, h1⟩
    have H1 := Lib.hid h1
    clear X0 h1
    go_wp2_with fail
    go_loopw [8, 9] (fun m p wr => ∃ (i : Nat) (c : Clk), p = .int .i64 i ∧ OneAt l n B w wr m i c) (fun _ p _ => l.length - (intOf p).toNat)
    case atStart => exact ⟨0, newClk n, rfl, by omega, by rw [sum_new], by rw [sum_new]; omega, b1, by omega, H1.out, rfl, ups_new n, by rw [skew_flat (z := (newClk n).a) (i := 0) (show 1 ≤ (newClk n).n by show 1 ≤ n; omega) (fun _ _ => rfl)]; exact Int.le_refl _⟩
    case round =>
      obtain ⟨i, c, rfl, hi, rfl, hsum, hB, hBs, hc, rfl, hu, hsk⟩ := hrel
      by_cases hlt : i < l.length
      · obtain ⟨b, off, rfl, hbl, hcell⟩ := HC.out (fun h => by rw [h] at hlt; simp at hlt)
        have hbB : b < B := by have := HB.out; omega
        generalize hy : l[i] = y at *
        have hyc : w.cell? ⟨b, off + i, none⟩ = some (.int .i64 y) := by rw [hcell i hlt, hy]
        have HY := Lib.hid hyc
        have XA := Lib.hid (all_any hn2 hn7 hc)
        have hb0 := sum_bound c.a c.n (fun j hj => by have := hu j hj; omega)
        have HH := Lib.hid hc
        have HU := Lib.hid hu
        have HSK := Lib.hid hsk
        clear hyc hcell hc hu hy hsk
        go_wp2_with fail
        refine XA.out.mono ?_
        rintro e w2 ⟨g, cp, rfl, hg1, hg2, hcells, b2⟩
        have B2 := hB.trans (b2.mono (by omega))
        have H2 : Hid (clkAt w2 B c) := (b2.block B (by omega)).trans HH.out
        have XS := Lib.hid (skew_ups hn2 hn7 HU.out (by omega) H2.out)
        have HG := Lib.hid hcells
        have s2 := b2.size
        clear hcells XA b2
        generalize hsg : skew c.n c.a = sk at *
        have HSG := Lib.hid hsg
        clear hsg
        go_wp2_with fail
        refine XS.out.mono ?_
        rintro e w3 ⟨rfl, q3, rfl⟩
        have XW := Lib.hid (worst_in (c := c) hn2 (clkAt_drawn (d := q3) H2.out))
        go_wp2_with fail
        refine XW.out.mono ?_
        rintro e w3 ⟨rfl, rfl⟩
        have hyc : w2.cell? ⟨b, off + i, none⟩ = some (.int .i64 y) := (B2.cell (p := ⟨b, off + i, none⟩) hbB).trans HY.out
        by_cases hr : 0 ≤ y ∧ y < c.n
        · obtain ⟨s, rfl⟩ : ∃ s : Nat, y = (s : Int) := ⟨y.toNat, by omega⟩
          have hs : s < c.n := by omega
          clear hr
          have XT := Lib.hid (tick_ups hn2 hn7 HU.out (by omega) s hs (clkAt_drawn (d := q3) H2.out))
          go_wp2_with fail
          refine XT.out.mono ?_
          rintro e w4 ⟨rfl, g4, h4⟩
          have B4 := (below_drewN B2 q3).grown g4 (by show B ≤ w2.heap.size; omega) (fun k hk => by cases hk; exact Nat.le_refl _)
          have s4 : w2.heap.size ≤ w4.heap.size := g4.size
          have HG4 := Lib.hid (fun j (hj : j < c.n) => (World.cell?_of_block (w := w2.drewN q3) (a := ⟨g, j, none⟩) (g4.block g hg2 (fun e => by cases e; omega))).trans (HG.out j hj))
          have XA := Lib.hid (all_any (c := c.tick s) hn2 hn7 h4)
          have H4 := Lib.hid h4
          clear g4 h4 hyc
          go_wp2_with fail
          refine XA.out.mono ?_
          rintro e w5 ⟨g', cp', rfl, hg1', hg2', hcells, b5⟩
          have B5 := B4.trans (b5.mono (by omega))
          have H5 : Hid (clkAt w5 B (c.tick s)) := (b5.block B (by omega)).trans H4.out
          have HG5 := Lib.hid (fun j (hj : j < c.n) => (b5.cell (p := ⟨g, j, none⟩) (by show g < w4.heap.size; omega)).trans (HG4.out j hj))
          have HG6 := Lib.hid (fun j (hj : j < c.n) => show w5.cell? ⟨g', j, none⟩ = some (.int .i64 (upd c.a s (c.a s + 1) j)) from hcells j hj)
          have hyc : w5.cell? ⟨b, off + i, none⟩ = some (.int .i64 (s : Int)) := (B5.cell (p := ⟨b, off + i, none⟩) hbB).trans HY.out
          have XS := Lib.hid (skew_ups (c := c.tick s) hn2 hn7 (ups_tick HU.out s hs) (by omega) H5.out)
          have s5 := b5.size
          clear hcells XA b5
          rw [show (c.tick s).n = c.n from rfl]
          rw [show (c.tick s).n = c.n from rfl] at XS
          go_wp2_with fail
          go_loop [17, 18] (fun m p => ∃ k : Nat, k ≤ c.n ∧ p = .int .i64 k ∧ m = .int .i64 (sumTo (upd c.a s (c.a s + 1)) k)) (fun _ p => c.n - (intOf p).toNat)
          case atStart => exact ⟨0, by omega, rfl, rfl⟩
          case round =>
            obtain ⟨k, hk, rfl, rfl⟩ := hrel
            by_cases hlt2 : k < c.n
            · have ck := HG5.out k hlt2
              have ck' := HG6.out k hlt2
              have hz := HU.out k hlt2
              have hb1 := sum_bound (upd c.a s (c.a s + 1)) k (fun j hj => by have := ups_tick HU.out s hs j (show j < c.n by omega); simp only [Clk.tick] at this; omega)
              have hb2 := ups_tick HU.out s hs k hlt2
              simp only [Clk.tick] at hb2
              by_cases e : k = s
              · subst e
                rw [upd_same] at ck' hb2
                have ES := Lib.hid (show sumTo (upd c.a k (c.a k + 1)) k + (c.a k + 1) = sumTo (upd c.a k (c.a k + 1)) (k + 1) by rw [sumTo, upd_same])
                go_wp2_with fail
                go_round
                case rel => exact ⟨k + 1, by omega, by go_num, by rw [ES.out]⟩
                case measure => simp [intOf]; omega
              · have eu : upd c.a s (c.a s + 1) k = c.a k := if_neg e
                rw [eu] at ck' hb2
                have de : ((k : Int) == (s : Int)) = false := by rw [beq_eq_false_iff_ne]; omega
                have ES := Lib.hid (show sumTo (upd c.a s (c.a s + 1)) k + c.a k = sumTo (upd c.a s (c.a s + 1)) (k + 1) by rw [sumTo, eu])
                clear e eu
                go_wp2_with fail
                go_round
                case rel => exact ⟨k + 1, by omega, by go_num, by rw [ES.out]⟩
                case measure => simp [intOf]; omega
            · obtain rfl : k = c.n := by omega
              have ES := Lib.hid (show sumTo (upd c.a s (c.a s + 1)) c.n = sumTo c.a c.n + 1 by rw [sum_upd, if_pos hs])
              have hsb := skew_tick (n := c.n) (z := c.a) (by omega) s
              have HW := Lib.hid (show (c.tick s).worst = worse c.worst (skew c.n (upd c.a s (c.a s + 1))) from rfl)
              have XS2 : Hid (Calls Try.prog 13 #[.pointer (some ⟨B, 0, none⟩)] w5 fun e w' => e = .returned (.int .i64 (skew c.n (upd c.a s (c.a s + 1)))) ∧ ∃ d, w' = w5.drewN d) := XS.out
              have hsp := skew_bound (by omega) HU.out
              rw [HSG.out] at hsp
              rw [HSG.out] at hsb
              rw [ES.out]
              have XW := Lib.hid (fun q => worst_in (c := c.tick s) hn2 (clkAt_drawn (d := q) H5.out))
              have HS' := Lib.hid (worse_le c.worst (skew c.n (upd c.a s (c.a s + 1))))
              generalize hsg' : skew c.n (upd c.a s (c.a s + 1)) = sk' at *
              have HSG' := Lib.hid hsg'
              clear hsg' XS
              have w5s : B < w5.heap.size := by omega
              by_cases hws : c.worst < sk'
              · have EW := Lib.hid (show (c.tick s).worst = sk' by rw [HW.out]; exact if_pos hws)
                rw [EW.out] at XW
                go_wp2_with fail
                refine XS2.out.mono ?_
                rintro e w6 ⟨rfl, q6, rfl⟩
                go_wp2_with fail
                refine (XW.out _).mono ?_
                rintro e w6 ⟨rfl, rfl⟩
                go_wp2_with fail
                go_roundw
                case rel => exact ⟨i + 1, c.tick s, by go_num, by omega, by rw [show (c.tick s).a = upd c.a s (c.a s + 1) from rfl, ES.out], by rw [show (c.tick s).a = upd c.a s (c.a s + 1) from rfl, ES.out]; omega, below_drewN B5 q6, w5s, clkAt_drawn H5.out, rfl, ups_tick HU.out s hs, by show skew c.n (upd c.a s (c.a s + 1)) ≤ _; rw [HSG'.out, EW.out]; exact Int.le_refl _⟩
                case measure => simp [intOf]; omega
              · have EW := Lib.hid (show (c.tick s).worst = c.worst by rw [HW.out]; exact if_neg hws)
                rw [EW.out] at XW
                go_wp2_with fail
                refine XS2.out.mono ?_
                rintro e w6 ⟨rfl, q6, rfl⟩
                go_wp2_with fail
                refine (XW.out _).mono ?_
                rintro e w6 ⟨rfl, rfl⟩
                go_wp2_with fail
                go_roundw
                case rel => exact ⟨i + 1, c.tick s, by go_num, by omega, by rw [show (c.tick s).a = upd c.a s (c.a s + 1) from rfl, ES.out], by rw [show (c.tick s).a = upd c.a s (c.a s + 1) from rfl, ES.out]; omega, below_drewN B5 q6, w5s, clkAt_drawn H5.out, rfl, ups_tick HU.out s hs, by show skew c.n (upd c.a s (c.a s + 1)) ≤ _; rw [HSG'.out, EW.out]; omega⟩
                case measure => simp [intOf]; omega
        · have hr2 : y < 0 ∨ (c.n : Int) ≤ y := by omega
          have HR2 := Lib.hid hr2
          have HR := Lib.hid hr
          clear hr hr2
          have XT := Lib.hid (tick_out (c := c) hn2 y HR2.out (clkAt_drawn (d := q3) H2.out))
          go_wp2_with fail
          refine XT.out.mono ?_
          rintro e w4 ⟨rfl, rfl⟩
          have XA := Lib.hid (all_any hn2 hn7 (clkAt_drawn (d := q3) H2.out))
          clear hyc
          go_wp2_with fail
          refine XA.out.mono ?_
          rintro e w5 ⟨g', cp', rfl, hg1', hg2', hcells, b5⟩
          have b5' : Below w2.heap.size w2 w5 := ⟨b5.os, b5.tape, b5.output, b5.size, b5.block⟩
          have B5 := B2.trans (b5'.mono (by omega))
          have H5 : Hid (clkAt w5 B c) := (b5'.block B (by omega)).trans H2.out
          have HG5 := Lib.hid (fun j (hj : j < c.n) => (b5'.cell (p := ⟨g, j, none⟩) hg2).trans (HG.out j hj))
          have HG6 := Lib.hid hcells
          have hyc : w5.cell? ⟨b, off + i, none⟩ = some (.int .i64 y) := (B5.cell (p := ⟨b, off + i, none⟩) hbB).trans HY.out
          have XS := Lib.hid (skew_ups (c := c) hn2 hn7 HU.out (by omega) H5.out)
          rw [HSG.out] at XS
          have s5 := b5'.size
          have hsp := skew_bound (by omega) HU.out
          rw [HSG.out] at hsp
          clear hcells XA b5 b5'
          go_wp2_with fail
          go_loop [17, 18] (fun m p => ∃ k : Nat, k ≤ c.n ∧ p = .int .i64 k ∧ m = .int .i64 (sumTo c.a k)) (fun _ p => c.n - (intOf p).toNat)
          case atStart => exact ⟨0, by omega, rfl, rfl⟩
          case round =>
            obtain ⟨k, hk, rfl, rfl⟩ := hrel
            by_cases hlt2 : k < c.n
            · have ck := HG5.out k hlt2
              have ck' := HG6.out k hlt2
              have hz := HU.out k hlt2
              have hb1 := sum_bound c.a k (fun j hj => by have := HU.out j (show j < c.n by omega); omega)
              have ES := Lib.hid (show sumTo c.a k + c.a k = sumTo c.a (k + 1) from rfl)
              go_wp2_with fail
              go_round
              case rel => exact ⟨k + 1, by omega, by go_num, by rw [ES.out]⟩
              case measure => simp [intOf]; omega
            · obtain rfl : k = c.n := by omega
              have XW := Lib.hid (fun q => worst_in (c := c) hn2 (clkAt_drawn (d := q) H5.out))
              have w5s : B < w5.heap.size := by omega
              have hws := HSK.out
              have HRR := HR.out
              by_cases hy0 : 0 ≤ y
              · have hy1 : decide (y < c.n) = false := by rw [decide_eq_false_iff_not]; omega
                go_wp2_with fail
                refine XS.out.mono ?_
                rintro e w6 ⟨rfl, q6, rfl⟩
                go_wp2_with fail
                refine (XW.out _).mono ?_
                rintro e w6 ⟨rfl, rfl⟩
                go_wp2_with fail
                go_roundw
                case rel => exact ⟨i + 1, c, by go_num, by omega, rfl, by omega, below_drewN B5 q6, w5s, clkAt_drawn H5.out, rfl, ups_more HU.out, by rw [HSG.out]; exact hws⟩
                case measure => simp [intOf]; omega
              · have hy1 : decide (0 ≤ y) = false := by rw [decide_eq_false_iff_not]; omega
                go_wp2_with fail
                refine XS.out.mono ?_
                rintro e w6 ⟨rfl, q6, rfl⟩
                go_wp2_with fail
                refine (XW.out _).mono ?_
                rintro e w6 ⟨rfl, rfl⟩
                go_wp2_with fail
                go_roundw
                case rel => exact ⟨i + 1, c, by go_num, by omega, rfl, by omega, below_drewN B5 q6, w5s, clkAt_drawn H5.out, rfl, ups_more HU.out, by rw [HSG.out]; exact hws⟩
                case measure => simp [intOf]; omega
      · obtain rfl : i = l.length := by omega
        clear hc hu
        go_wp2_with fail
        refine (works_any _).mono ?_
        rintro e w4 ⟨rfl, b4⟩
        go_wp2
        go_ret
        exact ⟨rfl, (hB.trans (b4.mono (by omega))).mono (by have := HB.out; omega)⟩
  · go_enter Try.func5, Try.ntmps5
    go_wp2
    go_ret
    exact ⟨rfl, Below.refl _ _⟩
end Go.Proofs.Ytahcfhdehdbnmaa
