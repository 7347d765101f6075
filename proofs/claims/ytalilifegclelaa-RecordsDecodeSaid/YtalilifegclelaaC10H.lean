/- The walk of RecordsDecode. (Printed by wip/src/XC10H.py.) -/
import Derived.Test.YtalilifegclelaaC10G
namespace Go.Proofs.Ytalilifegclelaa
open Go.RowKit

/-- Of the blocks that were, one at most is written, and that only if c. -/
structure Spoilt (c : Prop) (g : Nat) (w w' : World) : Prop where
  below : Below 0 w w'
  other : ∀ j, j < w.heap.size → (c → j ≠ g) → w'.heap[j]? = w.heap[j]?
theorem Spoilt.refl (c : Prop) (g : Nat) (w : World) : Spoilt c g w w := ⟨Below.refl _ _, fun _ _ _ => rfl⟩
theorem Spoilt.row {c : Prop} {g : Nat} {w w' : World} (h : Spoilt c g w w') (hc : c) (cs : Array Value) : Spoilt c g w (w'.setRow g cs) :=
  ⟨below_setRow h.below (Nat.zero_le _) cs, fun j hj h1 => by rw [setRow_other _ _ _ _ (h1 hc)]; exact h.other j hj h1⟩
theorem Spoilt.to {c : Prop} {g B : Nat} {w w' : World} (h : Spoilt c g w w') (hB : B ≤ w.heap.size) (hg : c → B ≤ g) : Below B w w' :=
  ⟨h.below.os, h.below.tape, h.below.output, h.below.size, fun k hk => h.other k (by omega) (fun hc => by have := hg hc; omega)⟩
theorem owns_spoilt {c : Prop} {B g n sz : Nat} {e : TypeId} {w w' : World} {v : Value} {xs : List Value} (h : w.ownsRow B e sz v n xs) (hs : Spoilt c g w w') (hg : c → g < B) : w'.ownsRow B e sz v n xs := by
  refine ⟨h.1, h.2.imp_right ?_⟩
  rintro ⟨g', cap, cur, rfl, hg', hh, rest⟩
  exact ⟨g', cap, cur, rfl, hg', (hs.other g' (Array.getElem?_eq_some_iff.1 hh).1 (fun hc => by have := hg hc; omega)).trans hh, rest⟩
/-- The block of a list of one's own. -/
theorem own_block {B n sz c : Nat} {e : TypeId} {w : World} {a : Option Addr} {xs : List Value} (h : w.ownsRow B e sz (.slice a n c) n xs) : ∃ g, 0 < n → a = some ⟨g, 0, none⟩ ∧ B ≤ g ∧ g < w.heap.size ∧ ∃ cur, w.heap[g]? = some (.cells cur e (0, 0)) ∧ n * sz ≤ cur.size := by
  rcases h.2 with ⟨hv, h0⟩ | ⟨g, cap, cur, hv, hg, hh, hn, hc, hs, _⟩
  · exact ⟨0, fun h => by omega⟩
  · refine ⟨g, fun _ => ?_⟩
    cases hv
    exact ⟨rfl, hg, (Array.getElem?_eq_some_iff.1 hh).1, cur, hh, by rw [hs]; exact Nat.mul_le_mul_right _ hn⟩
theorem recAt.spoilt {c : Prop} {gg : Nat} {w w' : World} {g : Nat} {n : RNum} {ve vf : Value} (h : recAt w g n ve vf) (hg : g < w.heap.size) (hs : Spoilt c gg w w') (hne : c → g ≠ gg) : recAt w' g n ve vf := by
  have hc : ∀ o, w'.cell? ⟨g, o, none⟩ = w.cell? ⟨g, o, none⟩ := fun o => World.cell?_of_block (a := ⟨g, o, none⟩) (hs.other g hg hne)
  obtain ⟨h0, h1, h2, h3, h4, h5, h6, h7⟩ := h
  exact ⟨(hc _).trans h0, (hc _).trans h1, (hc _).trans h2, (hc _).trans h3, (hc _).trans h4, (hc _).trans h5, (hc _).trans h6, (hc _).trans h7⟩

theorem spoilt_set {c : Prop} {g : Nat} {w w' : World} {cur : Array Value} {t : TypeId} (h : Spoilt c g w w') (hc : c) (hg : w'.heap[g]? = some (.cells cur t (0, 0))) (o : Nat) (v : Value) :
    Spoilt c g w (w'.setCell ⟨g, o, none⟩ v) ∧ ∃ cur', (w'.setCell ⟨g, o, none⟩ v).heap[g]? = some (.cells cur' t (0, 0)) ∧ cur'.size = cur.size := by
  rw [setCell_eq_setRow _ g o _ t _ _ hg]
  exact ⟨h.row hc _, _, setRow_heap _ _ _ _ _ _ hg, by simp⟩
theorem cell_there {g o : Nat} {w : World} {cur : Array Value} {t : TypeId} (hg : w.heap[g]? = some (.cells cur t (0, 0))) (ho : o < cur.size) : ∃ v, w.cell? ⟨g, o, none⟩ = some v :=
  ⟨cur[o], by simp [World.cell?, hg, ho]⟩
/-- What Decode leaves: this record, this code; its lists are its own. -/
def DecGood (w : World) (x : RNum × List Ent × List Spt) (code : Int) (e : Ending) (w' : World) : Prop := Below w.heap.size w w' ∧ ∃ a7 c7 a9 c9, e = .returned (.tuple #[.agg #[.int .i64 x.1.kind, .int .i64 x.1.stream, .int .i64 x.1.epoch, .int .i64 x.1.view, .int .i64 x.1.frm, .int .i64 x.1.length, .slice a7 x.2.1.length c7, .slice a9 x.2.2.length c9], .int .i64 code]) ∧
  w'.ownsRow w.heap.size 30 6 (.slice a7 x.2.1.length c7) x.2.1.length (entVals x.2.1) ∧ w'.ownsRow w.heap.size 32 2 (.slice a9 x.2.2.length c9) x.2.2.length (sptVals x.2.2)
theorem dec_some {w w' : World} {x : RNum × List Ent × List Spt} {e : Ending} {o : Option (RNum × List Ent × List Spt)} (h : o = some x) (hd : DecOut w o e w') : DecGood w x 0 e w' := by
  obtain ⟨hb, _, h2⟩ := hd
  obtain ⟨a7, c7, a9, c9, he, h7, h9⟩ := h2 x h
  exact ⟨hb, a7, c7, a9, c9, he, h7, h9⟩
theorem dec_none {w w' : World} {e : Ending} {o : Option (RNum × List Ent × List Spt)} (h : o = none) (hd : DecOut w o e w') : DecGood w (noNum, [], []) 30 e w' := by
  obtain ⟨hb, h1, _⟩ := hd
  exact ⟨hb, none, 0, none, 0, h1 h, ⟨rfl, .inl ⟨rfl, rfl⟩⟩, ⟨rfl, .inl ⟨rfl, rfl⟩⟩⟩
/-- Both Decodes, of one text. -/
theorem dec_both {s : ByteArray} (hs : s.size ≤ 900000) : ∃ (x : RNum × List Ent × List Spt) (code : Int), x.2.1.length ≤ 64 ∧ x.2.2.length ≤ 256 ∧ (∀ w : World, Calls Try.prog 16 #[.string s] w (DecGood w x code)) ∧
    (∀ w : World, Calls Try.prog 17 #[.string s] w (DecGood w x code)) := by
  cases hd : decR s.data.toList with
  | none => exact ⟨(noNum, [], []), 30, by simp, by simp, fun w => (decodeR_any hs w).mono fun _ _ h => dec_none hd h, fun w => (decRef_any hs w).mono fun _ _ h => dec_none hd h⟩
  | some x =>
    have h := may_small (decR_some hd).1
    exact ⟨x, 0, h.1, h.2, fun w => (decodeR_any hs w).mono fun _ _ h => dec_some hd h, fun w => (decRef_any hs w).mono fun _ _ h => dec_some hd h⟩

set_option maxRecDepth 100000 in
set_option maxHeartbeats 8000000 in
theorem recordsDecode_walk (s : ByteArray) (_hs0 : s.size ≤ maxLen) (w : World) :
    Calls Try.prog 4 #[.string s] w fun e w' => e = .returned (.bool true) ∧ Below w.heap.size w w' := by
  have HW := Lib.hid works_any
  by_cases hs2 : 20000 < s.size
  · go_enter Try.func4, Try.ntmps4
    go_wp2
    go_ret
    exact ⟨rfl, Below.refl _ _⟩
  · obtain ⟨x, code, hl1, hl2, hD, hR⟩ := dec_both (show s.size ≤ 900000 by omega)
    have HD := Lib.hid hD
    have HR := Lib.hid hR
    clear hD hR
    have dcode : (code != code) = false := by simp
    go_enter Try.func4, Try.ntmps4
    go_wp2_with fail
    refine (HD.out _).mono ?_
    rintro e w1 ⟨b1, a7, k7, a9, k9, rfl, o7, o9⟩
    obtain ⟨w2, e2, b2, s2, g2⟩ := boxed w1 (recCells x.1 (.slice a7 x.2.1.length k7) (.slice a9 x.2.2.length k9)) 25
    have E2 := Lib.hid (show w1.alloc (.cells #[.int .i64 x.1.kind, .int .i64 x.1.stream, .int .i64 x.1.epoch, .int .i64 x.1.view, .int .i64 x.1.frm, .int .i64 x.1.length, .slice a7 x.2.1.length k7, .slice a9 x.2.2.length k9] 25) = w2 from e2)
    have R2 := Lib.hid (show recAt w2 w1.heap.size x.1 (.slice a7 x.2.1.length k7) (.slice a9 x.2.2.length k9) from rec_cells g2)
    obtain ⟨g7, G7⟩ := own_block o7
    obtain ⟨g9, G9⟩ := own_block o9
    have HG7 := Lib.hid G7
    have HG9 := Lib.hid G9
    have HE2 := Lib.hid (owns_below o7 b2)
    have HF2 := Lib.hid (owns_below o9 b2)
    clear e2 g2 o7 o9 G7 G9
    go_upto_region 4 with fail
    rw [E2.out]
    go_wp2_with fail
    refine (HR.out _).mono ?_
    rintro e w3 ⟨b3, a7', k7', a9', k9', rfl, o7', o9'⟩
    obtain ⟨w4, e4, b4, s4, g4⟩ := boxed w3 (recCells x.1 (.slice a7' x.2.1.length k7') (.slice a9' x.2.2.length k9')) 25
    have E4 := Lib.hid (show w3.alloc (.cells #[.int .i64 x.1.kind, .int .i64 x.1.stream, .int .i64 x.1.epoch, .int .i64 x.1.view, .int .i64 x.1.frm, .int .i64 x.1.length, .slice a7' x.2.1.length k7', .slice a9' x.2.2.length k9'] 25) = w4 from e4)
    have R4 := Lib.hid (show recAt w4 w3.heap.size x.1 (.slice a7' x.2.1.length k7') (.slice a9' x.2.2.length k9') from rec_cells g4)
    have hz1 := b1.size
    have hz3 := b3.size
    have b34 := b3.trans (b4.mono hz3)
    have R2' := Lib.hid (R2.out.below (by omega) b34)
    have HE4 := Lib.hid (owns_below o7' b4)
    have HF4 := Lib.hid (owns_below o9' b4)
    obtain ⟨c0, c1, c2, c3, c4, c5, c6, c7⟩ := R2'.out
    obtain ⟨d0, d1, d2, d3, d4, d5, d6, d7⟩ := R4.out
    have HS := Lib.hid (same_any x.1 (ents_owned (B' := 0) (owns_below HE2.out b34)) (spts_owned (B' := 0) (owns_below HF2.out b34)) (ents_owned (B' := 0) HE4.out) (spts_owned (B' := 0) HF4.out) (by omega) (by omega))
    clear e4 g4 o7' o9'
    go_upto_region 5 with fail
    rw [E4.out]
    go_wp2_with fail
    refine HS.out.mono ?_
    rintro e w5 ⟨rfl, b5⟩
    have hz5 := b5.size
    clear c0 c1 c2 c3 c4 c5 c6 c7 d0 d1 d2 d3 d4 d5 d6 d7
    have R25 := Lib.hid (R2'.out.below (by omega) b5)
    have R45 := Lib.hid (R4.out.below (by omega) b5)
    have HE5 := Lib.hid (owns_below HE4.out b5)
    have HF5 := Lib.hid (owns_below HF4.out b5)
    have b15 : Below w1.heap.size w1 w5 := b2.trans ((b34.trans (b5.mono (by omega))).mono b2.size)
    have B5 : Below w.heap.size w w5 := b1.trans (b15.mono hz1)
    go_wp2_with fail
    go_loopw [7] (fun pp wr => ∃ k : Nat, k ≤ x.2.1.length ∧ pp = .int .i64 k ∧ Spoilt (0 < x.2.1.length) g7 w5 wr ∧ (0 < x.2.1.length → ∃ cur, wr.heap[g7]? = some (.cells cur 30 (0, 0)) ∧ x.2.1.length * 6 ≤ cur.size)) (fun pp _ => x.2.1.length - (intOf pp).toNat)
    case atStart =>
      refine ⟨0, by omega, rfl, Spoilt.refl _ _ _, fun h => ?_⟩
      obtain ⟨_, _, h3, cur, h4, h5⟩ := HG7.out h
      exact ⟨cur, (b15.block g7 h3).trans h4, h5⟩
    case round =>
      obtain ⟨k, hk, rfl, hS, hC⟩ := hrel
      have hne : 0 < x.2.1.length → w1.heap.size ≠ g7 := fun h => by have := (HG7.out h).2.2.1; omega
      obtain ⟨c0, c1, c2, c3, c4, c5, c6, c7⟩ := R25.out.spoilt (by omega) hS hne
      clear c0 c1 c2 c3 c4 c5 c7 hne
      by_cases hlt : k < x.2.1.length
      · have hpos : 0 < x.2.1.length := by omega
        obtain ⟨rfl, hg1, hg2, _⟩ := HG7.out hpos
        obtain ⟨cur, hcur, hcz⟩ := hC hpos
        have HC := Lib.hid hcur
        have HSP := Lib.hid hS
        obtain ⟨y0, cc0⟩ := cell_there (o := k * 6) hcur (by omega)
        have ff0 := thawed hcur (k * 6)
        obtain ⟨y1, cc1⟩ := cell_there (o := k * 6 + 1) hcur (by omega)
        have ff1 := thawed hcur (k * 6 + 1)
        obtain ⟨y2, cc2⟩ := cell_there (o := k * 6 + 2) hcur (by omega)
        have ff2 := thawed hcur (k * 6 + 2)
        obtain ⟨y3, cc3⟩ := cell_there (o := k * 6 + 3) hcur (by omega)
        have ff3 := thawed hcur (k * 6 + 3)
        obtain ⟨y4, cc4⟩ := cell_there (o := k * 6 + 4) hcur (by omega)
        have ff4 := thawed hcur (k * 6 + 4)
        obtain ⟨y5, cc5⟩ := cell_there (o := k * 6 + 5) hcur (by omega)
        have ff5 := thawed hcur (k * 6 + 5)
        clear hC hcur hS
        go_wp2
        go_roundw
        case rel =>
            obtain ⟨S0, u0, C0, z0⟩ := spoilt_set HSP.out hpos HC.out (k * 6) (.int .i64 (-9))
            obtain ⟨S1, u1, C1, z1⟩ := spoilt_set S0 hpos C0 ((k * 6) + 1) (.int .i64 0)
            obtain ⟨S2, u2, C2, z2⟩ := spoilt_set S1 hpos C1 ((k * 6) + 2) (.int .i64 0)
            obtain ⟨S3, u3, C3, z3⟩ := spoilt_set S2 hpos C2 ((k * 6) + 3) (.int .i64 0)
            obtain ⟨S4, u4, C4, z4⟩ := spoilt_set S3 hpos C3 ((k * 6) + 4) (.int .i64 0)
            obtain ⟨S5, u5, C5, z5⟩ := spoilt_set S4 hpos C4 ((k * 6) + 5) (.int .i64 0)
            exact ⟨k + 1, by omega, by go_num, S5, fun _ => ⟨_, C5, by omega⟩⟩
        case measure => simp [intOf]; omega
      · obtain rfl : k = x.2.1.length := by omega
        have s5r := hS.below.size
        have bS5 : Below w.heap.size w5 wr := hS.to (by have := B5.size; omega) (fun h => (HG7.out h).2.1)
        have hne' : 0 < x.2.1.length → w3.heap.size ≠ g7 := fun h => by have := (HG7.out h).2.2.1; have := b2.size; omega
        have hne : 0 < x.2.1.length → w1.heap.size ≠ g7 := fun h => by have := (HG7.out h).2.2.1; omega
        have hlow : 0 < x.2.1.length → g7 < w2.heap.size := fun h => by have := (HG7.out h).2.2.1; omega
        have R26 := Lib.hid (R25.out.spoilt (by omega) hS hne)
        have R46 := Lib.hid (R45.out.spoilt (by omega) hS hne')
        have HE6 := Lib.hid (owns_spoilt HE5.out hS hlow)
        have HF6 := Lib.hid (owns_spoilt HF5.out hS hlow)
        have h79 : 0 < x.2.2.length → ∃ cur, wr.heap[g9]? = some (.cells cur 32 (0, 0)) ∧ x.2.2.length * 2 ≤ cur.size := fun h => by
          obtain ⟨_, _, h3, cur, h4, h5⟩ := HG9.out h
          have h6 := (b15.block g9 h3).trans h4
          refine ⟨cur, (hS.other g9 (by have := b15.size; omega) (fun h7 e => ?_)).trans h6, h5⟩
          obtain ⟨_, _, h8, cur', h9, _⟩ := HG7.out h7
          have h10 := (b15.block g7 h8).trans h9
          rw [← e, h6] at h10
          injection h10 with h11
          injection h11 with _ h12
          exact absurd h12 (by decide)
        have H79 := Lib.hid h79
        obtain ⟨c0, c1, c2, c3, c4, c5, c6, c7'⟩ := R26.out
        clear hne hne' hlow hS hC h79 c0 c1 c2 c3 c4 c5
        go_wp2_with fail
        clear c6 c7'
        go_loopw [8] (fun pp wq => ∃ k : Nat, k ≤ x.2.2.length ∧ pp = .int .i64 k ∧ Spoilt (0 < x.2.2.length) g9 wr wq ∧ (0 < x.2.2.length → ∃ cur, wq.heap[g9]? = some (.cells cur 32 (0, 0)) ∧ x.2.2.length * 2 ≤ cur.size)) (fun pp _ => x.2.2.length - (intOf pp).toNat)
        case atStart => exact ⟨0, by omega, rfl, Spoilt.refl _ _ _, H79.out⟩
        case round =>
          obtain ⟨k, hk, rfl, hS, hC⟩ := hrel
          have hne : 0 < x.2.2.length → w1.heap.size ≠ g9 := fun h => by have := (HG9.out h).2.2.1; omega
          obtain ⟨c0, c1, c2, c3, c4, c5, c6, c7⟩ := R26.out.spoilt (by omega) hS hne
          clear c0 c1 c2 c3 c4 c5 c6 hne
          by_cases hlt : k < x.2.2.length
          · have hpos : 0 < x.2.2.length := by omega
            obtain ⟨rfl, hg1, hg2, _⟩ := HG9.out hpos
            obtain ⟨cur, hcur, hcz⟩ := hC hpos
            have HC := Lib.hid hcur
            have HSP := Lib.hid hS
            obtain ⟨y0, cc0⟩ := cell_there (o := k * 2) hcur (by omega)
            have ff0 := thawed hcur (k * 2)
            obtain ⟨y1, cc1⟩ := cell_there (o := k * 2 + 1) hcur (by omega)
            have ff1 := thawed hcur (k * 2 + 1)
            clear hC hcur hS
            go_wp2
            go_roundw
            case rel =>
                obtain ⟨S0, u0, C0, z0⟩ := spoilt_set HSP.out hpos HC.out (k * 2) (.int .i64 0)
                obtain ⟨S1, u1, C1, z1⟩ := spoilt_set S0 hpos C0 ((k * 2) + 1) (.int .i64 (-9))
                exact ⟨k + 1, by omega, by go_num, S1, fun _ => ⟨_, C1, by omega⟩⟩
            case measure => simp [intOf]; omega
          · obtain rfl : k = x.2.2.length := by omega
            have s6r := hS.below.size
            have bS6 := hS.to (B := w.heap.size) (by have := B5.size; omega) (fun h => (HG9.out h).2.1)
            have hne' : 0 < x.2.2.length → w3.heap.size ≠ g9 := fun h => by have := (HG9.out h).2.2.1; have := b2.size; omega
            have hlow : 0 < x.2.2.length → g9 < w2.heap.size := fun h => by have := (HG9.out h).2.2.1; omega
            have R47 := Lib.hid (R46.out.spoilt (by omega) hS hne')
            have HE7 := Lib.hid (owns_spoilt HE6.out hS hlow)
            have HF7 := Lib.hid (owns_spoilt HF6.out hS hlow)
            have B7 := B5.trans (bS5.trans bS6)
            clear hne' hlow hS hC
            go_wp2_with fail
            refine (HD.out _).mono ?_
            rintro e w8 ⟨b8, a8, k8, a8', k8', rfl, o8, o8'⟩
            have s8 := b8.size
            obtain ⟨w9, e9, b9, s9, g9'⟩ := boxed w8 (recCells x.1 (.slice a8 x.2.1.length k8) (.slice a8' x.2.2.length k8')) 25
            have E9 := Lib.hid (show w8.alloc (.cells #[.int .i64 x.1.kind, .int .i64 x.1.stream, .int .i64 x.1.epoch, .int .i64 x.1.view, .int .i64 x.1.frm, .int .i64 x.1.length, .slice a8 x.2.1.length k8, .slice a8' x.2.2.length k8'] 25) = w9 from e9)
            have b89 := b8.trans (b9.mono s8)
            obtain ⟨c0, c1, c2, c3, c4, c5, c6, c7'⟩ := rec_cells g9'
            obtain ⟨d0, d1, d2, d3, d4, d5, d6, d7⟩ := R47.out.below (by omega) b89
            have HS9 := Lib.hid (same_any x.1 (ents_owned (B' := 0) (owns_below o8 b9)) (spts_owned (B' := 0) (owns_below o8' b9)) (ents_owned (B' := 0) (owns_below HE7.out b89)) (spts_owned (B' := 0) (owns_below HF7.out b89)) (by omega) (by omega))
            have dcode2 : (code == code) = true := by simp
            clear e9 g9' o8 o8'
            go_upto_region 16 with fail
            rw [E9.out]
            go_wp2_with fail
            refine HS9.out.mono ?_
            rintro e w10 ⟨rfl, b10⟩
            go_wp2_with fail
            refine (HW.out _).mono ?_
            rintro e w11 ⟨rfl, b11⟩
            go_wp2
            go_ret
            have s10 := b10.size
            exact ⟨rfl, B7.trans ((b89.trans ((b10.mono (by omega)).trans (b11.mono (by omega)))).mono B7.size)⟩
end Go.Proofs.Ytalilifegclelaa
