/- Walk of layer 7: ClocksRound. -/
import Derived.Test.YtahcfhdehdbnmaaC7d
namespace Go.Proofs.Ytahcfhdehdbnmaa
open Go.RowKit

theorem u8_bounds {x : Int} (h : (Lit.int .u8 x).wf = true) : 0 ≤ x ∧ x ≤ 255 := by
  simp only [Lit.wf, Bool.and_eq_true, decide_eq_true_eq] at h
  exact h
/-- Which site is ticked k-th in a round, and when a site is. -/
def siteN (y n k : Nat) : Nat := if 128 ≤ y then n - 1 - (k + y) % n else (k + y) % n
def posN (y n j : Nat) : Nat := if 128 ≤ y then ((n - 1 - j) + (n - y % n)) % n else (j + (n - y % n)) % n
theorem site_lt {y n k : Nat} (hn : 2 ≤ n) : siteN y n k < n := by
  have := Nat.mod_lt (k + y) (show 0 < n by omega)
  unfold siteN
  split <;> omega
theorem pos_lt {y n j : Nat} (hn : 2 ≤ n) : posN y n j < n := by
  unfold posN
  split <;> exact Nat.mod_lt _ (by omega)
theorem pos_site {y n k : Nat} (hn : 2 ≤ n) (h7 : n ≤ 7) (hk : k < n) : posN y n (siteN y n k) = k := by
  have : n = 2 ∨ n = 3 ∨ n = 4 ∨ n = 5 ∨ n = 6 ∨ n = 7 := by omega
  unfold posN siteN
  rcases this with rfl | rfl | rfl | rfl | rfl | rfl <;> split <;> omega
theorem pos_inj {y n i j : Nat} (hn : 2 ≤ n) (h7 : n ≤ 7) (hi : i < n) (hj : j < n) (h : posN y n i = posN y n j) : i = j := by
  have : n = 2 ∨ n = 3 ∨ n = 4 ∨ n = 5 ∨ n = 6 ∨ n = 7 := by omega
  unfold posN at h
  rcases this with rfl | rfl | rfl | rfl | rfl | rfl <;> split at h <;> omega

/-- In round i, of which k ticks are done. -/
def Rounds (n i y k : Nat) (c : Clk) : Prop := c.n = n ∧ (∀ j, j < n → c.a j = if posN y n j < k then (i : Int) + 1 else i) ∧ c.worst = if i = 0 ∧ k = 0 then 0 else 1
theorem rounds_ups {n i y k : Nat} {c : Clk} (h : Rounds n i y k c) : Ups c (i + 1) := fun j hj => by
  rw [h.2.1 j (h.1 ▸ hj)]
  split <;> omega
theorem rounds_start {n i y : Nat} {c : Clk} (hn : c.n = n) (ha : ∀ j, j < n → c.a j = i) (hw : c.worst = if i = 0 then 0 else 1) : Rounds n i y 0 c :=
  ⟨hn, fun j hj => by rw [ha j hj, if_neg (by omega)], by rw [hw]; by_cases h : i = 0 <;> simp [h]⟩
theorem rounds_end {n i y : Nat} {c : Clk} (h2 : 2 ≤ n) (h : Rounds n i y n c) : c.n = n ∧ (∀ j, j < n → c.a j = ((i + 1 : Nat) : Int)) ∧ c.worst = if i + 1 = 0 then 0 else 1 :=
  ⟨h.1, fun j hj => by rw [h.2.1 j hj, if_pos (pos_lt h2)]; omega, by rw [h.2.2, if_neg (by omega), if_neg (by omega)]⟩
theorem skew_low {n : Nat} {z : Nat → Int} (h1 : 1 ≤ n) {i : Int} (h : ∀ j, j < n → i ≤ z j ∧ z j ≤ i + 1) : 0 ≤ skew n z ∧ skew n z ≤ 1 := by
  obtain ⟨a, ha, ea⟩ := maxTo_is z (n - 1)
  obtain ⟨b, hb, eb⟩ := minTo_is z (n - 1)
  have h2 := h a (by omega)
  have h3 := h b (by omega)
  have h4 := le_maxTo z (n - 1) b hb
  unfold skew
  omega
theorem skew_far {n : Nat} {z : Nat → Int} (a b : Nat) (ha : a < n) (hb : b < n) : z a - z b ≤ skew n z := by
  have h1 := le_maxTo z (n - 1) a (by omega)
  have h2 := minTo_le z (n - 1) b (by omega)
  unfold skew
  omega
theorem skew_flat {n : Nat} {z : Nat → Int} (h1 : 1 ≤ n) {i : Int} (h : ∀ j, j < n → z j = i) : skew n z = 0 := by
  obtain ⟨a, ha, ea⟩ := maxTo_is z (n - 1)
  obtain ⟨b, hb, eb⟩ := minTo_is z (n - 1)
  have h2 := h a (by omega)
  have h3 := h b (by omega)
  unfold skew
  omega
theorem rounds_tick {n i y k : Nat} {c : Clk} (h2 : 2 ≤ n) (h7 : n ≤ 7) (hk : k < n) (h : Rounds n i y k c) : Rounds n i y (k + 1) (c.tick (siteN y n k)) ∧ 0 ≤ skew (c.tick (siteN y n k)).n (c.tick (siteN y n k)).a ∧ skew (c.tick (siteN y n k)).n (c.tick (siteN y n k)).a ≤ 1 := by
  obtain ⟨rfl, ha, hw⟩ := h
  have hsl := site_lt (y := y) (k := k) h2
  have hps := pos_site (y := y) h2 h7 hk
  have has : c.a (siteN y c.n k) = i := by rw [ha _ hsl, hps, if_neg (by omega)]
  have ha' : ∀ j, j < c.n → upd c.a (siteN y c.n k) (c.a (siteN y c.n k) + 1) j = if posN y c.n j < k + 1 then (i : Int) + 1 else i := by
    intro j hj
    unfold upd
    by_cases e : j = siteN y c.n k
    · rw [if_pos e, e, hps, if_pos (by omega), has]
    · have hne : posN y c.n j ≠ k := fun h => e (pos_inj h2 h7 hj hsl (h.trans hps.symm))
      rw [if_neg e, ha j hj]
      by_cases hlt : posN y c.n j < k
      · rw [if_pos hlt, if_pos (by omega)]
      · rw [if_neg hlt, if_neg (by omega)]
  have hs := skew_low (n := c.n) (z := upd c.a (siteN y c.n k) (c.a (siteN y c.n k) + 1)) (i := i) (by omega) (fun j hj => by rw [ha' j hj]; split <;> omega)
  refine ⟨⟨rfl, ha', ?_⟩, hs⟩
  show worse c.worst (skew c.n (upd c.a (siteN y c.n k) (c.a (siteN y c.n k) + 1))) = _
  rw [if_neg (by omega)]
  unfold worse
  by_cases h0 : i = 0 ∧ k = 0
  · have h1 : ∃ j, j < c.n ∧ posN y c.n j ≠ 0 := by
      by_cases e : posN y c.n 0 = 0
      · exact ⟨1, by omega, fun e2 => by have := pos_inj (y := y) h2 h7 (show 0 < c.n by omega) (show 1 < c.n by omega) (e.trans e2.symm); omega⟩
      · exact ⟨0, by omega, e⟩
    obtain ⟨j, hj, hp⟩ := h1
    have hf := skew_far (z := upd c.a (siteN y c.n k) (c.a (siteN y c.n k) + 1)) _ j hsl hj
    rw [ha' _ hsl, ha' j hj, hps, if_pos (by omega), if_neg (by omega)] at hf
    rw [hw, if_pos h0, if_pos (by omega)]
    omega
  · rw [hw, if_neg h0, if_neg (by omega)]

theorem site_small {y n k : Nat} (h : ¬ 128 ≤ y) : ((k : Int) + y) % n = (siteN y n k : Nat) := by
  unfold siteN; rw [if_neg h, Int.natCast_emod, Int.natCast_add]
theorem site_great {y n k : Nat} (hn : 2 ≤ n) (h : 128 ≤ y) : (n : Int) - 1 - ((k : Int) + y) % n = (siteN y n k : Nat) := by
  have := Nat.mod_lt (k + y) (show 0 < n by omega)
  have e : ((k : Int) + y) % n = ((k + y) % n : Nat) := by rw [Int.natCast_emod, Int.natCast_add]
  unfold siteN; rw [if_pos h, e]; omega
theorem site_wrapped {y n k : Nat} (hn : 2 ≤ n) (h7 : n ≤ 7) (h : 128 ≤ y) : wrap64 ((n : Int) - 1 - ((k : Int) + y) % n) = (siteN y n k : Nat) := by
  rw [site_great hn h]
  have := site_lt (y := y) (k := k) hn
  exact IntWalk.wrap64_in _ ⟨by omega, by omega⟩
theorem many_sites {x : Int} : ∃ n : Nat, 2 ≤ n ∧ n ≤ 7 ∧ 2 + x % 6 = (n : Int) := ⟨(2 + x % 6).toNat, by omega, by omega, by omega⟩

set_option maxRecDepth 100000 in
set_option maxHeartbeats 4000000 in
theorem clocksRound_walk (x : Int) (l : List Int) (v : Value) (hx : (Lit.int .u8 x).wf = true) (hl : ∀ n ∈ l, (Lit.int .u8 n).wf = true) (w : World) (hv : IntsIn .u8 w v l) :
    Calls Try.prog 7 #[.int .u8 x, v] w fun e w' => e = .returned (.bool true) ∧ Below w.heap.size w w' := by
  obtain ⟨⟨ad, cap, rfl, hc⟩, hnil⟩ := hv
  clear hnil
  obtain ⟨hx0, hx1⟩ := u8_bounds hx
  obtain ⟨n, hn2, hn7, hn⟩ := many_sites (x := x)
  have HN := Lib.hid hn
  have HC := Lib.hid hc
  have HL := Lib.hid hl
  clear hx hn hc hl
  by_cases hk : l.length ≤ 100
  · have d1 : decide ((100 : Int) < (l.length : Int)) = false := by rw [decide_eq_false_iff_not]; omega
    have X0 := Lib.hid (new_yes n hn2 hn7 w)
    generalize hB : w.heap.size = B at *
    have HB := Lib.hid hB
    clear hB
    go_enter Try.func7, Try.ntmps7
    go_wp2_with fail
    rw [HN.out]
    refine X0.out.mono ?_
    rintro e w1 ⟨rfl, b1, s1, h1⟩
    have H1 := Lib.hid h1
    clear X0 h1
    go_wp2_with fail
    go_loopw [8] (fun p wr => ∃ (i : Nat) (c : Clk), i ≤ l.length ∧ p = .int .i64 i ∧ Below B w wr ∧ B < wr.heap.size ∧ clkAt wr B c ∧ c.n = n ∧ (∀ j, j < n → c.a j = i) ∧ c.worst = if i = 0 then 0 else 1) (fun p _ => l.length - (intOf p).toNat)
    case atStart => exact ⟨0, newClk n, by omega, rfl, b1, by omega, H1.out, rfl, fun _ _ => rfl, rfl⟩
    case round =>
      obtain ⟨i, c, hi, rfl, hB, hBs, hc, hcn, hca, hcw⟩ := hrel
      by_cases hlt : i < l.length
      · obtain ⟨b, off, rfl, hbl, hcell⟩ := HC.out (fun h => by rw [h] at hlt; simp at hlt)
        have hy := u8_bounds (HL.out _ (List.getElem_mem hlt))
        obtain ⟨y, hy2⟩ : ∃ y : Nat, l[i] = (y : Int) := ⟨l[i].toNat, by omega⟩
        have hyc : w.cell? ⟨b, off + i, none⟩ = some (.int .u8 (y : Int)) := by rw [hcell i hlt, hy2]
        have hy255 : y ≤ 255 := by omega
        have hbB : b < B := by have := HB.out; omega
        have HR := Lib.hid (rounds_start (y := y) hcn hca hcw)
        have HH := Lib.hid hc
        have HY := Lib.hid hyc
        clear hy hy2 hcell hc hcn hca hcw hyc
        go_wp2_with fail
        go_loopw [9] (fun p wq => ∃ (k : Nat) (d : Clk), k ≤ n ∧ p = .int .i64 k ∧ Below B w wq ∧ B < wq.heap.size ∧ clkAt wq B d ∧ Rounds n i y k d) (fun p _ => n - (intOf p).toNat)
        case atStart => exact ⟨0, c, by omega, rfl, hB, hBs, HH.out, HR.out⟩
        case round =>
          obtain ⟨k, d, hk2, rfl, hB2, hBs2, hd, hR⟩ := hrel
          by_cases hlt2 : k < n
          · have hyc : wr.cell? ⟨b, off + i, none⟩ = some (.int .u8 (y : Int)) := (hB2.cell (p := ⟨b, off + i, none⟩) hbB).trans HY.out
            obtain ⟨hR2, hs0, hs1⟩ := rounds_tick hn2 hn7 hlt2 hR
            have hdn := hR.1
            have XT := Lib.hid (tick_ups (by rw [hdn]; exact hn2) (by rw [hdn]; exact hn7) (rounds_ups hR) (by omega) (siteN y n k) (by rw [hdn]; exact site_lt hn2) hd)
            have HR2 := Lib.hid hR2
            have DN := Lib.hid hdn
            clear hR hR2 hd hdn
            by_cases h128 : 128 ≤ y
            · have ES := Lib.hid (site_wrapped (k := k) hn2 hn7 h128)
              go_wp2_with fail
              rw [ES.out]
              refine XT.out.mono ?_
              rintro e w3 ⟨rfl, g3, h3⟩
              have XS := Lib.hid (skew_ups (by rw [HR2.out.1]; exact hn2) (by rw [HR2.out.1]; exact hn7) (rounds_ups HR2.out) (by omega) h3)
              have H3 := Lib.hid h3
              have B3 := hB2.grown g3 (by omega) (fun k hk => by cases hk; exact Nat.le_refl _)
              have s3 := g3.size
              clear h3 g3
              generalize skew (d.tick (siteN y n k)).n (d.tick (siteN y n k)).a = sk at *
              go_wp2_with fail
              refine XS.out.mono ?_
              rintro e w4 ⟨rfl, q, rfl⟩
              go_wp2
              go_roundw
              case rel => exact ⟨k + 1, d.tick (siteN y n k), by omega, by go_num, below_drewN B3 q, by show B < w3.heap.size; omega, clkAt_drawn H3.out, HR2.out⟩
              case measure => simp [intOf]; omega
            · have ES := Lib.hid (site_small (k := k) (n := n) h128)
              go_wp2_with fail
              rw [ES.out]
              refine XT.out.mono ?_
              rintro e w3 ⟨rfl, g3, h3⟩
              have XS := Lib.hid (skew_ups (by rw [HR2.out.1]; exact hn2) (by rw [HR2.out.1]; exact hn7) (rounds_ups HR2.out) (by omega) h3)
              have H3 := Lib.hid h3
              have B3 := hB2.grown g3 (by omega) (fun k hk => by cases hk; exact Nat.le_refl _)
              have s3 := g3.size
              clear h3 g3
              generalize skew (d.tick (siteN y n k)).n (d.tick (siteN y n k)).a = sk at *
              go_wp2_with fail
              refine XS.out.mono ?_
              rintro e w4 ⟨rfl, q, rfl⟩
              go_wp2
              go_roundw
              case rel => exact ⟨k + 1, d.tick (siteN y n k), by omega, by go_num, below_drewN B3 q, by show B < w3.heap.size; omega, clkAt_drawn H3.out, HR2.out⟩
              case measure => simp [intOf]; omega
          · obtain rfl : k = n := by omega
            obtain ⟨hn3, ha3, hw3⟩ := rounds_end hn2 hR
            have XS := Lib.hid (skew_ups (by rw [hn3]; exact hn2) (by rw [hn3]; exact hn7) (rounds_ups hR) (by omega) hd)
            rw [skew_flat (i := ((i + 1 : Nat) : Int)) (by rw [hn3]; omega) (fun j hj => ha3 j (hn3 ▸ hj))] at XS
            have HD := Lib.hid hd
            have HE := Lib.hid (And.intro hn3 (And.intro ha3 hw3))
            clear hR hd hn3 ha3 hw3
            go_wp2_with fail
            refine XS.out.mono ?_
            rintro e w4 ⟨rfl, q, rfl⟩
            go_wp2
            go_roundw
            case rel => exact ⟨i + 1, d, by omega, by go_num, below_drewN hB2 q, hBs2, clkAt_drawn HD.out, HE.out.1, HE.out.2.1, HE.out.2.2⟩
            case measure => simp [intOf]; omega
      · obtain rfl : i = l.length := by omega
        have XA := Lib.hid (at_in (by rw [hcn]; exact hn2) (by rw [hcn]; exact hn7) (n - 1) (by rw [hcn]; omega) hc)
        rw [hca (n - 1) (by omega)] at XA
        have XW := Lib.hid (worst_in (by rw [hcn]; exact hn2) hc)
        rw [hcw] at XW
        have EN := Lib.hid (show (n : Int) - 1 = ((n - 1 : Nat) : Int) by omega)
        clear hc hcn hca hcw
        by_cases h0 : l.length = 0
        · rw [if_pos h0] at XW
          have d2 : decide ((0 : Int) < (l.length : Int)) = false := by rw [decide_eq_false_iff_not]; omega
          have d3 : decide (0 < l.length) = false := by rw [decide_eq_false_iff_not]; omega
          clear h0
          go_wp2_with fail
          rw [EN.out]
          refine XA.out.mono ?_
          rintro e w4 ⟨rfl, rfl⟩
          go_wp2_with fail
          refine XW.out.mono ?_
          rintro e w4 ⟨rfl, rfl⟩
          go_wp2_with fail
          refine (works_any _).mono ?_
          rintro e w4 ⟨rfl, b4⟩
          go_wp2
          go_ret
          exact ⟨rfl, (hB.trans (b4.mono (by omega))).mono (by have := HB.out; omega)⟩
        · rw [if_neg h0] at XW
          have d2 : decide ((0 : Int) < (l.length : Int)) = true := by rw [decide_eq_true_eq]; omega
          have d3 : decide (0 < l.length) = true := by rw [decide_eq_true_eq]; omega
          clear h0
          go_wp2_with fail
          rw [EN.out]
          refine XA.out.mono ?_
          rintro e w4 ⟨rfl, rfl⟩
          go_wp2_with fail
          refine XW.out.mono ?_
          rintro e w4 ⟨rfl, rfl⟩
          go_wp2_with fail
          refine (works_any _).mono ?_
          rintro e w4 ⟨rfl, b4⟩
          go_wp2
          go_ret
          exact ⟨rfl, (hB.trans (b4.mono (by omega))).mono (by have := HB.out; omega)⟩
  · go_enter Try.func7, Try.ntmps7
    go_wp2
    go_ret
    exact ⟨rfl, Below.refl _ _⟩
end Go.Proofs.Ytahcfhdehdbnmaa
