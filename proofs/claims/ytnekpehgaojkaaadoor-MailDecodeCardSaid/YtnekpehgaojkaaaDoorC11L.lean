/- The walk of MailDecode. (Printed by wip/src/XC11L.py.) -/
import Derived.Test.YtnekpehgaojkaaaDoorC11K
import Derived.Test.YtnekpehgaojkaaaDoorC11q
namespace Go.Proofs.YtnekpehgaojkaaaDoor
open Go.RowKit

/-- Of the blocks that were, one at most is written, and that only if c. -/
structure Spoilt (c : Prop) (g : Nat) (w w' : World) : Prop where
  below : Below 0 w w'
  other : ∀ j, j < w.heap.size → (c → j ≠ g) → w'.heap[j]? = w.heap[j]?
theorem Spoilt.refl (c : Prop) (g : Nat) (w : World) : Spoilt c g w w := ⟨Below.refl _ _, fun _ _ _ => rfl⟩
theorem Spoilt.row {c : Prop} {g : Nat} {w w' : World} (h : Spoilt c g w w') (hc : c) (cs : Array Value) : Spoilt c g w (w'.setRow g cs) :=
  ⟨below_setRow h.below (Nat.zero_le _) cs, fun j hj h1 => by rw [setRow_other _ _ _ _ (h1 hc)]; exact h.other j hj h1⟩
theorem Spoilt.to {c : Prop} {g B : Nat} {w w' : World} (h : Spoilt c g w w') (hB : B ≤ w.heap.size) (hg : c → B ≤ g) : Below B w w' :=
  ⟨h.below.os, h.below.tape, h.below.output, h.below.size, fun k hk => h.other k (by omega) (fun hc => by have := hg hc; omega)⟩
theorem owns_spoilt {c : Prop} {B g n sz : Nat} {e : TypeId} {w w' : World} {v : Value} {xs : List Value} (h : w.ownsRow B e sz v n xs) (hs : Spoilt c g w w') (hg : c → g < B) : w'.ownsRow B e sz v n xs := by
  refine ⟨h.1, h.2.imp_right ?_⟩
  rintro ⟨g', cap, cur, rfl, hg', hh, rest⟩
  exact ⟨g', cap, cur, rfl, hg', (hs.other g' (Array.getElem?_eq_some_iff.1 hh).1 (fun hc => by have := hg hc; omega)).trans hh, rest⟩
/-- The block of a list of one's own. -/
theorem own_block {B n sz c : Nat} {e : TypeId} {w : World} {a : Option Addr} {xs : List Value} (h : w.ownsRow B e sz (.slice a n c) n xs) : ∃ g, 0 < n → a = some ⟨g, 0, none⟩ ∧ B ≤ g ∧ g < w.heap.size ∧ ∃ cur, w.heap[g]? = some (.cells cur e (0, 0)) ∧ n * sz ≤ cur.size := by
  rcases h.2 with ⟨hv, h0⟩ | ⟨g, cap, cur, hv, hg, hh, hn, hc, hs, _⟩
  · exact ⟨0, fun h => by omega⟩
  · refine ⟨g, fun _ => ?_⟩
    cases hv
    exact ⟨rfl, hg, (Array.getElem?_eq_some_iff.1 hh).1, cur, hh, by rw [hs]; exact Nat.mul_le_mul_right _ hn⟩
theorem spoilt_set {c : Prop} {g : Nat} {w w' : World} {cur : Array Value} {t : TypeId} (h : Spoilt c g w w') (hc : c) (hg : w'.heap[g]? = some (.cells cur t (0, 0))) (o : Nat) (v : Value) :
    Spoilt c g w (w'.setCell ⟨g, o, none⟩ v) ∧ ∃ cur', (w'.setCell ⟨g, o, none⟩ v).heap[g]? = some (.cells cur' t (0, 0)) ∧ cur'.size = cur.size := by
  rw [setCell_eq_setRow _ g o _ t _ _ hg]
  exact ⟨h.row hc _, _, setRow_heap _ _ _ _ _ _ hg, by simp⟩
theorem cell_there {g o : Nat} {w : World} {cur : Array Value} {t : TypeId} (hg : w.heap[g]? = some (.cells cur t (0, 0))) (ho : o < cur.size) : ∃ v, w.cell? ⟨g, o, none⟩ = some v :=
  ⟨cur[o], by simp [World.cell?, hg, ho]⟩
/-- What Decode leaves: this message, this code; its entries are its own. -/
def DecGoodM (w : World) (x : MNum × List Ent) (code : Int) (e : Ending) (w' : World) : Prop := Below w.heap.size w w' ∧ ∃ a7 c7, e = .returned (.tuple #[.agg (mailCells x.1 (.slice a7 x.2.length c7)), .int .i64 code]) ∧
  w'.ownsRow w.heap.size 30 6 (.slice a7 x.2.length c7) x.2.length (entVals x.2)
theorem decM_someG {w w' : World} {x : MNum × List Ent} {e : Ending} {o : Option (MNum × List Ent)} (h : o = some x) (hd : DecMOut w o e w') : DecGoodM w x 0 e w' := by
  obtain ⟨hb, _, h2⟩ := hd
  obtain ⟨a7, c7, he, h7⟩ := h2 x h
  exact ⟨hb, a7, c7, he, h7⟩
theorem decM_noneG {w w' : World} {e : Ending} {o : Option (MNum × List Ent)} (h : o = none) (hd : DecMOut w o e w') : DecGoodM w (noM, []) 30 e w' := by
  obtain ⟨hb, h1, _⟩ := hd
  exact ⟨hb, none, 0, h1 h, ⟨rfl, .inl ⟨rfl, rfl⟩⟩⟩
/-- Both Decodes, of one text. -/
theorem decM_both {s : ByteArray} (hs : s.size ≤ 900000) (n : Int) : ∃ (x : MNum × List Ent) (code : Int), x.2.length ≤ 64 ∧ (∀ w : World, KindsAt w → Calls Tryd.prog 15 #[.string s, .int .i64 n] w (DecGoodM w x code)) ∧
    (∀ w : World, Calls Tryd.prog 16 #[.string s, .int .i64 n] w (DecGoodM w x code)) := by
  cases hd : decM s.data.toList n with
  | none => exact ⟨(noM, []), 30, by simp, fun w hK => (decodeM_any hs hK n).mono fun _ _ h => decM_noneG hd h, fun w => (decRefM_any hs n w).mono fun _ _ h => decM_noneG hd h⟩
  | some x =>
    have h := mayM_small (decM_some hd).1
    exact ⟨x, 0, h, fun w hK => (decodeM_any hs hK n).mono fun _ _ h => decM_someG hd h, fun w => (decRefM_any hs n w).mono fun _ _ h => decM_someG hd h⟩

set_option maxRecDepth 100000 in
set_option maxHeartbeats 8000000 in
theorem mailDecode_walk (s : ByteArray) (n : Int) (_hs0 : s.size ≤ maxLen) (_hn : (Lit.int .i64 n).wf = true) (w : World) (hK : KindsAt w) :
    Calls Tryd.prog 4 #[.string s, .int .i64 n] w fun e w' => e = .returned (.bool true) ∧ Below w.heap.size w w' := by
  have hp := hK.pos
  have HKK := Lib.hid (fun (wx : World) (bx : Below w.heap.size w wx) => hK.below bx hp)
  have HW := Lib.hid (fun (wx : World) (bx : Below w.heap.size w wx) => works_any (hK.below bx hp))
  by_cases hs2 : 20000 < s.size
  · clear hK
    go_enter Tryd.func4, Tryd.ntmps4
    go_wp2
    go_ret
    exact ⟨rfl, Below.refl _ _⟩
  · obtain ⟨x, code, hl1, hD, hR⟩ := decM_both (show s.size ≤ 900000 by omega) n
    have HD := Lib.hid hD
    have HR := Lib.hid hR
    have HK0 := Lib.hid hK
    clear hD hR hK
    have dcode : (code != code) = false := by simp
    go_enter Tryd.func4, Tryd.ntmps4
    go_wp2_with fail
    refine (HD.out _ HK0.out).mono ?_
    rintro e w1 ⟨b1, a7, k7, rfl, o7⟩
    obtain ⟨w2, e2, b2, s2, g2⟩ := fresh_msg w1 (mailCells x.1 (.slice a7 x.2.length k7)) 28
    have n1 := World.alloc_heap_new w1 (.cells #[.int .i64 0, .int .i64 0, .int .i64 0, .int .i64 0, .int .i64 0, .int .i64 0, .int .i64 0, .int .i64 0, .int .i64 0, .slice none 0 0, .int .i64 0, .int .i64 0, .int .i64 0, .int .i64 0, .int .i64 0, .int .i64 0, .int .i64 0, .int .i64 0] 28)
    have E2 := Lib.hid e2
    have G2 := Lib.hid g2
    obtain ⟨g7, G7⟩ := own_block o7
    have HG7 := Lib.hid G7
    have HE2 := Lib.hid (owns_below o7 b2)
    have S2 := Lib.hid s2
    have hz2 : w1.heap.size < w2.heap.size := by omega
    clear e2 g2 o7 G7 s2
    go_upto_region 4 with (refine wpList_store_row rfl _ _ (.tmp 19) rfl w1.heap.size (mailCells x.1 (.slice a7 x.2.length k7)) rfl rfl _ _ n1 (by kernel_rfl) rfl (msg_one _ _ _ _) ?_; rw [E2.out])
    clear n1
    go_wp2_with fail
    refine (HR.out _).mono ?_
    rintro e w3 ⟨b3, a7', k7', rfl, o7'⟩
    obtain ⟨w4, e4, b4, s4, g4⟩ := fresh_msg w3 (mailCells x.1 (.slice a7' x.2.length k7')) 28
    have n3 := World.alloc_heap_new w3 (.cells #[.int .i64 0, .int .i64 0, .int .i64 0, .int .i64 0, .int .i64 0, .int .i64 0, .int .i64 0, .int .i64 0, .int .i64 0, .slice none 0 0, .int .i64 0, .int .i64 0, .int .i64 0, .int .i64 0, .int .i64 0, .int .i64 0, .int .i64 0, .int .i64 0] 28)
    have E4 := Lib.hid e4
    have hz1 := b1.size
    have hz3 := b3.size
    have hz4 : w3.heap.size < w4.heap.size := by omega
    have b34 := b3.trans (b4.mono hz3)
    have G24 := Lib.hid ((b34.block w1.heap.size (by omega)).trans G2.out)
    have G44 := Lib.hid g4
    have HE4 := Lib.hid (owns_below o7' b4)
    have HS := Lib.hid (sameM x.1 (ents_owned (B' := 0) (owns_below HE2.out b34)) (ents_owned (B' := 0) HE4.out) (by omega))
    have r1 := msg_range G24.out
    have r2 := msg_range G44.out
    clear e4 g4 o7' s4
    go_upto_region 5 with (refine wpList_store_row rfl _ _ (.tmp 25) rfl w3.heap.size (mailCells x.1 (.slice a7' x.2.length k7')) rfl rfl _ _ n3 (by kernel_rfl) rfl (msg_one _ _ _ _) ?_; rw [E4.out])
    clear n3
    go_wp2_with (first | (refine load_midG (by rfl) _ _ rfl _ _ rfl _ _ r1 Tryd.underlying28 rfl (by kernel_rfl) ?_) | (refine load_midG (by rfl) _ _ rfl _ _ rfl _ _ r2 Tryd.underlying28 rfl (by kernel_rfl) ?_))
    refine HS.out.mono ?_
    rintro e w5 ⟨rfl, b5⟩
    have hz5 := b5.size
    clear r1 r2
    have G25 := Lib.hid ((b5.block w1.heap.size (by omega)).trans G24.out)
    have G45 := Lib.hid ((b5.block w3.heap.size (by omega)).trans G44.out)
    have HE5 := Lib.hid (owns_below HE4.out b5)
    have b15 : Below w1.heap.size w1 w5 := b2.trans ((b34.trans (b5.mono (by omega))).mono b2.size)
    have B5 : Below w.heap.size w w5 := b1.trans (b15.mono hz1)
    go_wp2_with fail
    go_loopw [9] (fun pp wr => ∃ k : Nat, k ≤ x.2.length ∧ pp = .int .i64 k ∧ Spoilt (0 < x.2.length) g7 w5 wr ∧ (0 < x.2.length → ∃ cur, wr.heap[g7]? = some (.cells cur 30 (0, 0)) ∧ x.2.length * 6 ≤ cur.size)) (fun pp _ => x.2.length - (intOf pp).toNat)
    case atStart =>
      refine ⟨0, by omega, rfl, Spoilt.refl _ _ _, fun h => ?_⟩
      obtain ⟨_, _, h3, cur, h4, h5⟩ := HG7.out h
      exact ⟨cur, (b15.block g7 h3).trans h4, h5⟩
    case round =>
      obtain ⟨k, hk, rfl, hS, hC⟩ := hrel
      have hne : 0 < x.2.length → w1.heap.size ≠ g7 := fun h => by have := (HG7.out h).2.2.1; omega
      have GR := (hS.other w1.heap.size (by omega) hne).trans G25.out
      have c9 := msg_cell GR 9 (.slice a7 x.2.length k7) rfl
      clear GR hne
      by_cases hlt : k < x.2.length
      · have hpos : 0 < x.2.length := by omega
        obtain ⟨rfl, hg1, hg2, _⟩ := HG7.out hpos
        obtain ⟨cur, hcur, hcz⟩ := hC hpos
        have HC := Lib.hid hcur
        have HSP := Lib.hid hS
        obtain ⟨y0, cc0⟩ := cell_there (o := k * 6) hcur (by omega)
        have ff0 := thawed hcur (k * 6)
        obtain ⟨y1, cc1⟩ := cell_there (o := k * 6 + 1) hcur (by omega)
        have ff1 := thawed hcur (k * 6 + 1)
        obtain ⟨y2, cc2⟩ := cell_there (o := k * 6 + 2) hcur (by omega)
        have ff2 := thawed hcur (k * 6 + 2)
        obtain ⟨y3, cc3⟩ := cell_there (o := k * 6 + 3) hcur (by omega)
        have ff3 := thawed hcur (k * 6 + 3)
        obtain ⟨y4, cc4⟩ := cell_there (o := k * 6 + 4) hcur (by omega)
        have ff4 := thawed hcur (k * 6 + 4)
        obtain ⟨y5, cc5⟩ := cell_there (o := k * 6 + 5) hcur (by omega)
        have ff5 := thawed hcur (k * 6 + 5)
        clear hC hcur hS
        go_wp2
        go_roundw
        case rel =>
            obtain ⟨S0, u0, C0, z0⟩ := spoilt_set HSP.out hpos HC.out (k * 6) (.int .i64 (-9))
            obtain ⟨S1, u1, C1, z1⟩ := spoilt_set S0 hpos C0 ((k * 6) + 1) (.int .i64 0)
            obtain ⟨S2, u2, C2, z2⟩ := spoilt_set S1 hpos C1 ((k * 6) + 2) (.int .i64 0)
            obtain ⟨S3, u3, C3, z3⟩ := spoilt_set S2 hpos C2 ((k * 6) + 3) (.int .i64 0)
            obtain ⟨S4, u4, C4, z4⟩ := spoilt_set S3 hpos C3 ((k * 6) + 4) (.int .i64 0)
            obtain ⟨S5, u5, C5, z5⟩ := spoilt_set S4 hpos C4 ((k * 6) + 5) (.int .i64 0)
            exact ⟨k + 1, by omega, by go_num, S5, fun _ => ⟨_, C5, by omega⟩⟩
        case measure => simp [intOf]; omega
      · obtain rfl : k = x.2.length := by omega
        have s5r := hS.below.size
        have bS5 : Below w.heap.size w5 wr := hS.to (by have := B5.size; omega) (fun h => (HG7.out h).2.1)
        have hne' : 0 < x.2.length → w3.heap.size ≠ g7 := fun h => by have := (HG7.out h).2.2.1; have := b2.size; omega
        have hlow : 0 < x.2.length → g7 < w2.heap.size := fun h => by have := (HG7.out h).2.2.1; omega
        have G46 := Lib.hid ((hS.other w3.heap.size (by omega) hne').trans G45.out)
        have HE6 := Lib.hid (owns_spoilt HE5.out hS hlow)
        have B6 := B5.trans bS5
        clear hne' hlow hS hC
        go_wp2_with fail
        refine (HD.out _ (HKK.out _ B6)).mono ?_
        rintro e w8 ⟨b8, a8, k8, rfl, o8⟩
        clear c9
        have s8 := b8.size
        obtain ⟨w9, e9, b9, s9, g9'⟩ := fresh_msg w8 (mailCells x.1 (.slice a8 x.2.length k8)) 28
        have n8 := World.alloc_heap_new w8 (.cells #[.int .i64 0, .int .i64 0, .int .i64 0, .int .i64 0, .int .i64 0, .int .i64 0, .int .i64 0, .int .i64 0, .int .i64 0, .slice none 0 0, .int .i64 0, .int .i64 0, .int .i64 0, .int .i64 0, .int .i64 0, .int .i64 0, .int .i64 0, .int .i64 0] 28)
        have E9 := Lib.hid e9
        have b89 := b8.trans (b9.mono s8)
        have r1 := msg_range g9'
        have r2 := msg_range ((b89.block w3.heap.size (by omega)).trans G46.out)
        have HS9 := Lib.hid (sameM x.1 (ents_owned (B' := 0) (owns_below o8 b9)) (ents_owned (B' := 0) (owns_below HE6.out b89)) (by omega))
        have dcode2 : (code == code) = true := by simp
        clear e9 g9' o8 s9
        go_upto_region 12 with (refine wpList_store_row rfl _ _ (.tmp 52) rfl w8.heap.size (mailCells x.1 (.slice a8 x.2.length k8)) rfl rfl _ _ n8 (by kernel_rfl) rfl (msg_one _ _ _ _) ?_; rw [E9.out])
        clear n8
        go_wp2_with (first | (refine load_midG (by rfl) _ _ rfl _ _ rfl _ _ r1 Tryd.underlying28 rfl (by kernel_rfl) ?_) | (refine load_midG (by rfl) _ _ rfl _ _ rfl _ _ r2 Tryd.underlying28 rfl (by kernel_rfl) ?_))
        refine HS9.out.mono ?_
        rintro e w10 ⟨rfl, b10⟩
        clear r1 r2
        have B10 := B6.trans ((b89.trans (b10.mono b89.size)).mono B6.size)
        go_wp2_with fail
        refine (HW.out _ B10).mono ?_
        rintro e w11 ⟨rfl, b11⟩
        go_wp2
        go_ret
        exact ⟨rfl, B10.trans (b11.mono B10.size)⟩
end Go.Proofs.YtnekpehgaojkaaaDoor
