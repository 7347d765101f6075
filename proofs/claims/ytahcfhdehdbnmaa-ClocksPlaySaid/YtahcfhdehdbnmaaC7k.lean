/- Walk of layer 7: ClocksPlay. -/
import Derived.Test.YtahcfhdehdbnmaaC7j
import Derived.Deep.RegionHeld3
import Derived.Maps.RangeWalk
namespace Go.Proofs.Ytahcfhdehdbnmaa
open Go.RowKit

def Clk.has (c : Clk) (y : Int) : Prop := 0 ≤ y ∧ y < c.n
instance (c : Clk) (y : Int) : Decidable (c.has y) := inferInstanceAs (Decidable (_ ∧ _))
/-- What a tick of whatever site comes to, what it answers, and what At does. -/
def Clk.step (c : Clk) (y : Int) : Clk := if c.has y then c.tick y.toNat else c
def Clk.code (c : Clk) (y : Int) : Int := if c.has y then 0 else 2
def Clk.look (c : Clk) (y : Int) : Int := if c.has y then c.a y.toNat else 0
theorem step_n (c : Clk) (y : Int) : (c.step y).n = c.n := by unfold Clk.step; split <;> rfl
theorem step_ups {c : Clk} {m : Nat} (h : Ups c m) (y : Int) : Ups (c.step y) (m + 1) := by
  unfold Clk.step
  split
  · rename_i hh
    exact ups_tick h _ (by have := hh.1; have := hh.2; omega)
  · exact ups_more h
theorem tick_step {B : Nat} {c : Clk} {m : Nat} (hn : 2 ≤ c.n) (h7 : c.n ≤ 7) (hu : Ups c m) (hm : m < 1073741824) (y : Int) {w : World} (h : clkAt w B c) :
    Calls Try.prog 11 #[.pointer (some ⟨B, 0, none⟩), .int .i64 y] w fun e w' => e = .returned (.int .i64 (c.code y)) ∧ w.grownBy w' (some B) ∧ clkAt w' B (c.step y) := by
  by_cases hh : c.has y
  · obtain ⟨s, rfl⟩ : ∃ s : Nat, y = (s : Int) := ⟨y.toNat, by have := hh.1; omega⟩
    have e1 : c.code s = 0 := if_pos hh
    have e2 : c.step s = c.tick s := by unfold Clk.step; rw [if_pos hh, Int.toNat_natCast]
    rw [e1, e2]
    exact tick_ups hn h7 hu hm s (by have := hh.2; omega) h
  · have e1 : c.code y = 2 := if_neg hh
    have e2 : c.step y = c := if_neg hh
    rw [e1, e2]
    refine (tick_out hn y (by unfold Clk.has at hh; omega) h).mono ?_
    rintro e w' ⟨he, rfl⟩
    exact ⟨he, ⟨rfl, rfl, rfl, Nat.le_refl _, fun _ _ _ => rfl⟩, h⟩
theorem refTick_step {R L : Nat} {c : Clk} {m : Nat} (hn : 2 ≤ c.n) (h7 : c.n ≤ 7) (hu : Ups c m) (hm : m < 1073741824) (y : Int) {w : World} (h : refAt w R L c) :
    Calls Try.prog 12 #[.pointer (some ⟨R, 0, none⟩), .int .i64 y] w fun e w' => e = .returned (.int .i64 (c.code y)) ∧ Two R L w w' ∧ refAt w' R L (c.step y) := by
  by_cases hh : c.has y
  · obtain ⟨s, rfl⟩ : ∃ s : Nat, y = (s : Int) := ⟨y.toNat, by have := hh.1; omega⟩
    have hs : s < c.n := by have := hh.2; omega
    have e1 : c.code s = 0 := if_pos hh
    have e2 : c.step s = c.tick s := by unfold Clk.step; rw [if_pos hh, Int.toNat_natCast]
    rw [e1, e2]
    exact refTick_in hn h7 (ups_low hu (by omega)) s hs (by have := hu s hs; omega) h
  · have e1 : c.code y = 2 := if_neg hh
    have e2 : c.step y = c := if_neg hh
    rw [e1, e2]
    refine (refTick_out y (by unfold Clk.has at hh; omega) h).mono ?_
    rintro e w' ⟨he, rfl⟩
    exact ⟨he, ⟨rfl, rfl, rfl, Nat.le_refl _, fun _ _ _ _ => rfl⟩, h⟩
theorem at_look {B : Nat} {c : Clk} (hn : 2 ≤ c.n) (h7 : c.n ≤ 7) (y : Int) {w : World} (h : clkAt w B c) :
    Calls Try.prog 16 #[.pointer (some ⟨B, 0, none⟩), .int .i64 y] w fun e w' => e = .returned (.tuple #[.int .i64 (c.look y), .int .i64 (c.code y)]) ∧ w = w' := by
  by_cases hh : c.has y
  · obtain ⟨s, rfl⟩ : ∃ s : Nat, y = (s : Int) := ⟨y.toNat, by have := hh.1; omega⟩
    have e1 : c.code s = 0 := if_pos hh
    have e2 : c.look s = c.a s := by unfold Clk.look; rw [if_pos hh, Int.toNat_natCast]
    rw [e1, e2]
    exact at_in hn h7 s (by have := hh.2; omega) h
  · have e1 : c.code y = 2 := if_neg hh
    have e2 : c.look y = 0 := if_neg hh
    rw [e1, e2]
    exact at_out hn y (by unfold Clk.has at hh; omega) h
theorem refAt_look {R L : Nat} {c : Clk} (y : Int) {w : World} (h : refAt w R L c) :
    Calls Try.prog 17 #[.pointer (some ⟨R, 0, none⟩), .int .i64 y] w fun e w' => e = .returned (.tuple #[.int .i64 (c.look y), .int .i64 (c.code y)]) ∧ w = w' := by
  by_cases hh : c.has y
  · obtain ⟨s, rfl⟩ : ∃ s : Nat, y = (s : Int) := ⟨y.toNat, by have := hh.1; omega⟩
    have e1 : c.code s = 0 := if_pos hh
    have e2 : c.look s = c.a s := by unfold Clk.look; rw [if_pos hh, Int.toNat_natCast]
    rw [e1, e2]
    exact refAt_in s (by have := hh.2; omega) h
  · have e1 : c.code y = 2 := if_neg hh
    have e2 : c.look y = 0 := if_neg hh
    rw [e1, e2]
    exact refAt_out y (by unfold Clk.has at hh; omega) h

/-- Where both stand. -/
def PlayAt (n B R L : Nat) (w wr : World) (i : Nat) (c : Clk) : Prop :=
  Below B w wr ∧ clkAt wr B c ∧ refAt wr R L c ∧ c.n = n ∧ Ups c i

set_option maxRecDepth 100000 in
set_option maxHeartbeats 8000000 in
theorem play_yes (n : Nat) (hn2 : 2 ≤ n) (hn7 : n ≤ 7) (l : List Int) (v : Value) (hk : l.length ≤ 2000) (w : World) (hv : IntsIn .i64 w v l) :
    Calls Try.prog 3 #[.int .i64 n, v] w fun e w' => e = .returned (.bool true) ∧ Below w.heap.size w w' := by
  obtain ⟨⟨ad, cap, rfl, hc⟩, hnil⟩ := hv
  clear hnil
  have HC := Lib.hid hc
  clear hc
  have d1 : decide ((2000 : Int) < (l.length : Int)) = false := by rw [decide_eq_false_iff_not]; omega
  have X0 := Lib.hid (new_yes n hn2 hn7 w)
  generalize hB : w.heap.size = B at *
  have HB := Lib.hid hB
  clear hB
  go_enter Try.func3, Try.ntmps3
  go_wp2_with fail
  refine X0.out.mono ?_
  rintro e w1 ⟨rfl, b1, s1, h1⟩
  have H1 := Lib.hid h1
  clear X0 h1
  go_wp2_with fail
  refine (refNew_yes n hn2 hn7 w1).mono ?_
  rintro e w2 ⟨R, L, rfl, b2, hR, hL, h2⟩
  have HP : Hid (PlayAt n B R L w w2 0 (newClk n)) := ⟨b1.trans (b2.mono (by omega)), (b2.block B (by omega)).trans H1.out, h2, rfl, ups_new n⟩
  have hRB : B < R := by omega
  have hLB : B < L := by omega
  clear b1 b2 h2 s1 hR hL
  go_wp2_with fail
  go_loopw [9] (fun p wr => ∃ (i : Nat) (c : Clk), i ≤ l.length ∧ p = .int .i64 i ∧ PlayAt n B R L w wr i c) (fun p _ => l.length - (intOf p).toNat)
  case atStart => exact ⟨0, newClk n, by omega, rfl, HP.out⟩
  case round =>
    obtain ⟨i, c, hi, rfl, hP⟩ := hrel
    obtain ⟨hB, hc, hr, rfl, hu⟩ := hP
    by_cases hlt : i < l.length
    · obtain ⟨b, off, rfl, hbl, hcell⟩ := HC.out (fun h => by rw [h] at hlt; simp at hlt)
      have hbB : b < B := by have := HB.out; omega
      generalize hy : l[i] = y at *
      have hyc : w.cell? ⟨b, off + i, none⟩ = some (.int .i64 y) := by rw [hcell i hlt, hy]
      have HY := Lib.hid hyc
      have hyc : wr.cell? ⟨b, off + i, none⟩ = some (.int .i64 y) := (hB.cell (p := ⟨b, off + i, none⟩) hbB).trans HY.out
      have HH := Lib.hid hc
      have HR := Lib.hid hr
      have HU := Lib.hid hu
      have i1 : (0 : Int) ≤ i := by omega
      have i2 : (i : Int) < l.length := by omega
      have hBs : B < wr.heap.size := (Array.getElem?_eq_some_iff.1 hc).1
      obtain ⟨hRs, hLs⟩ := ref_lt hr
      have HB1 := Lib.hid hB
      clear hcell hc hr hu hy hB
      have HS := Lib.hid (step_ups HU.out y)
      have HSn := Lib.hid (step_n c y)
      have HS2 := Lib.hid (show 2 ≤ (c.step y).n by rw [step_n]; exact hn2)
      have HS7 := Lib.hid (show (c.step y).n ≤ 7 by rw [step_n]; exact hn7)
      have HT := Lib.hid (fun w h => tick_step (B := B) hn2 hn7 HU.out (by omega) y (w := w) h)
      have HRT := Lib.hid (fun w h => refTick_step (R := R) (L := L) hn2 hn7 HU.out (by omega) y (w := w) h)
      generalize hd : c.step y = d at *
      have HD := Lib.hid hd
      clear hd
      go_wp2_with fail
      refine wp_region_held_drew (S := fun w' => w'.cell? ⟨b, off + i, none⟩ = some (.int .i64 y)) (by kernel_rfl) hyc (fun hHeld => ?_)
      refine' wpAnyH_take (i := 0) (oi := { dst := some 51, op := Op.move (Operand.tmp 5), type := 23, pos := "law.go:37", after := #[], guard := none }) rfl (by kernel_rfl) (by kernel_rfl) (by kernel_rfl) (fun _ _ _ h => h) (Or.inl ⟨by rfl, ?_⟩) (by assumption) ?_
      rotate_left
      · (intro w hSw; (try dsimp only at hSw); go_simp; try with_reducible rfl)
      try go_frame
      refine' wpAnyH_take (i := 1) (oi := { dst := some 52, op := Op.move (Operand.tmp 1), type := 22, pos := "law.go:37", after := #[], guard := none }) rfl (by kernel_rfl) (by kernel_rfl) (by kernel_rfl) (fun _ _ _ h => h) (Or.inl ⟨by rfl, ?_⟩) (by assumption) ?_
      rotate_left
      · (intro w hSw; (try dsimp only at hSw); go_simp; try with_reducible rfl)
      try go_frame
      refine' wpAnyH_take (i := 2) (oi := { dst := some 53, op := Op.move (Operand.tmp 9), type := 3, pos := "law.go:37", after := #[], guard := none }) rfl (by kernel_rfl) (by kernel_rfl) (by kernel_rfl) (fun _ _ _ h => h) (Or.inl ⟨by rfl, ?_⟩) (by assumption) ?_
      rotate_left
      · (intro w hSw; (try dsimp only at hSw); go_simp; try with_reducible rfl)
      try go_frame
      refine' wpAnyH_take (i := 3) (oi := { dst := some 54, op := Op.indexAddr 22 (Operand.tmp 52) (Operand.tmp 53), type := 0, pos := "law.go:37", after := #[{ on := 1, ground := Ground.data }, { on := 2, ground := Ground.data }], guard := none }) rfl (by kernel_rfl) (by kernel_rfl) (by kernel_rfl) (fun _ _ _ h => h) (Or.inl ⟨by rfl, ?_⟩) (by assumption) ?_
      rotate_left
      · (intro w hSw; (try dsimp only at hSw); go_simp; try with_reducible rfl)
      try go_frame
      refine' wpAnyH_take (i := 4) (oi := { dst := some 55, op := Op.load 3 (Operand.tmp 54), type := 3, pos := "law.go:37", after := #[{ on := 3, ground := Ground.data }], guard := none }) rfl (by kernel_rfl) (by kernel_rfl) (by kernel_rfl) (fun _ _ _ h => h) (Or.inl ⟨by rfl, ?_⟩) (by assumption) ?_
      rotate_left
      · (intro w hSw; (try dsimp only at hSw); go_simp; try with_reducible rfl)
      try go_frame
      refine' wpAnyH_take (i := 6) (oi := { dst := some 57, op := Op.move (Operand.tmp 7), type := 27, pos := "law.go:37", after := #[], guard := none }) rfl (by kernel_rfl) (by kernel_rfl) (by kernel_rfl) (fun _ _ _ h => h) (Or.inl ⟨by rfl, ?_⟩) (by assumption) ?_
      rotate_left
      · (intro w hSw; (try dsimp only at hSw); go_simp; try with_reducible rfl)
      try go_frame
      refine' wpAnyH_take (i := 7) (oi := { dst := some 58, op := Op.move (Operand.tmp 1), type := 22, pos := "law.go:37", after := #[], guard := none }) rfl (by kernel_rfl) (by kernel_rfl) (by kernel_rfl) (fun _ _ _ h => h) (Or.inl ⟨by rfl, ?_⟩) (by assumption) ?_
      rotate_left
      · (intro w hSw; (try dsimp only at hSw); go_simp; try with_reducible rfl)
      try go_frame
      refine' wpAnyH_take (i := 8) (oi := { dst := some 59, op := Op.move (Operand.tmp 9), type := 3, pos := "law.go:37", after := #[], guard := none }) rfl (by kernel_rfl) (by kernel_rfl) (by kernel_rfl) (fun _ _ _ h => h) (Or.inl ⟨by rfl, ?_⟩) (by assumption) ?_
      rotate_left
      · (intro w hSw; (try dsimp only at hSw); go_simp; try with_reducible rfl)
      try go_frame
      refine' wpAnyH_take (i := 9) (oi := { dst := some 60, op := Op.indexAddr 22 (Operand.tmp 58) (Operand.tmp 59), type := 0, pos := "law.go:37", after := #[{ on := 7, ground := Ground.data }, { on := 8, ground := Ground.data }], guard := none }) rfl (by kernel_rfl) (by kernel_rfl) (by kernel_rfl) (fun _ _ _ h => h) (Or.inl ⟨by rfl, ?_⟩) (by assumption) ?_
      rotate_left
      · (intro w hSw; (try dsimp only at hSw); go_simp; try with_reducible rfl)
      try go_frame
      refine' wpAnyH_take (i := 10) (oi := { dst := some 61, op := Op.load 3 (Operand.tmp 60), type := 3, pos := "law.go:37", after := #[{ on := 9, ground := Ground.data }], guard := none }) rfl (by kernel_rfl) (by kernel_rfl) (by kernel_rfl) (fun _ _ _ h => h) (Or.inl ⟨by rfl, ?_⟩) (by assumption) ?_
      rotate_left
      · (intro w hSw; (try dsimp only at hSw); go_simp; try with_reducible rfl)
      try go_frame
      refine wpAnyH_ready (rs := [5]) (by kernel_rfl) (by simp) (AllReadyH.cons (o := { dst := some 56, op := Op.call { callee := Callee.value (Operand.func 11), args := #[Operand.tmp 51, Operand.tmp 55], argTypes := #[23, 3] }, type := 24, pos := "law.go:37", after := #[{ on := 0, ground := Ground.data }, { on := 4, ground := Ground.data }], guard := none }) rfl (fun K hK => ?_) AllReadyH.nil)
      go_simp
      refine (HT.out _ (by exact HH.out)).mono ?_; rintro e w3 ⟨rfl, g3, h3⟩; have H3 := Lib.hid h3; have G3 := Lib.hid g3; have hyc3 : w3.cell? ⟨b, off + i, none⟩ = some (.int .i64 y) := (World.cell?_of_block (w := wr) (a := ⟨b, off + i, none⟩) (g3.block b (by show b < wr.heap.size; omega) (fun e => by cases e; omega))).trans hyc; have R3 := Lib.hid (ref_kept HR.out (g3.block R hRs (fun e => by cases e; omega)) (g3.block L hLs (fun e => by cases e; omega))); clear g3 h3
      try go_wp2_with fail
      refine hK.out _ _ (hyc3) (fun hHeld => ?_)
      clear hK K
      try go_frame
      refine wpAnyH_ready (rs := [11]) (by kernel_rfl) (by simp) (AllReadyH.cons (o := { dst := some 62, op := Op.call { callee := Callee.value (Operand.func 12), args := #[Operand.tmp 57, Operand.tmp 61], argTypes := #[27, 3] }, type := 24, pos := "law.go:37", after := #[{ on := 6, ground := Ground.data }, { on := 10, ground := Ground.data }, { on := 5, ground := Ground.chain }], guard := none }) rfl (fun K hK => ?_) AllReadyH.nil)
      go_simp
      refine (HRT.out _ (by exact R3.out)).mono ?_; rintro e w4 ⟨rfl, g4, h4⟩; have G4 := Lib.hid g4; have H4 := Lib.hid h4; have k1 := (ref_cells h4).2.1; have hw34 : wr.heap.size ≤ w3.heap.size := G3.out.size; have C4 : Hid (clkAt w4 B d) := (g4.block B (by omega) (by omega) (by omega)).trans H3.out; have hyc4 : w4.cell? ⟨b, off + i, none⟩ = some (.int .i64 y) := (World.cell?_of_block (w := w3) (a := ⟨b, off + i, none⟩) (g4.block b (by show b < w3.heap.size; omega) (by omega) (by omega))).trans hyc3; clear g4 h4
      try go_wp2_with fail
      refine hK.out _ _ (hyc4) (fun hHeld => ?_)
      clear hK K
      try go_frame
      refine' wpAnyH_take (i := 12) (oi := { dst := some 63, op := Op.binOp BinOp.neq 24 (Operand.tmp 56) (Operand.tmp 62) 24, type := 4, pos := "law.go:37", after := #[{ on := 5, ground := Ground.data }, { on := 11, ground := Ground.data }], guard := none }) rfl (by kernel_rfl) (by kernel_rfl) (by kernel_rfl) (fun _ _ _ h => h) (Or.inl ⟨by rfl, ?_⟩) (by assumption) ?_
      rotate_left
      · (intro w hSw; (try dsimp only at hSw); go_simp; try with_reducible rfl)
      try go_frame
      refine' wpAnyH_take (i := 13) (oi := { dst := some 64, op := Op.move (Operand.tmp 63), type := 4, pos := "law.go:37", after := #[{ on := 12, ground := Ground.data }, { on := 11, ground := Ground.chain }], guard := none }) rfl (by kernel_rfl) (by kernel_rfl) (by kernel_rfl) (fun _ _ _ h => h) (Or.inl ⟨by rfl, ?_⟩) (by assumption) ?_
      rotate_left
      · (intro w hSw; (try dsimp only at hSw); go_simp; try with_reducible rfl)
      try go_frame
      refine' wpAnyH_take (i := 14) (oi := { dst := some 65, op := Op.move (Operand.tmp 5), type := 23, pos := "law.go:37", after := #[{ on := 13, ground := Ground.guard }], guard := some (13, false) }) rfl (by kernel_rfl) (by kernel_rfl) (by kernel_rfl) (fun _ _ _ h => h) (Or.inl ⟨by rfl, ?_⟩) (by assumption) ?_
      rotate_left
      · (intro w hSw; (try dsimp only at hSw); go_simp; try with_reducible rfl)
      try go_frame
      refine' wpAnyH_take (i := 16) (oi := { dst := some 67, op := Op.move (Operand.tmp 7), type := 27, pos := "law.go:37", after := #[{ on := 13, ground := Ground.guard }], guard := some (13, false) }) rfl (by kernel_rfl) (by kernel_rfl) (by kernel_rfl) (fun _ _ _ h => h) (Or.inl ⟨by rfl, ?_⟩) (by assumption) ?_
      rotate_left
      · (intro w hSw; (try dsimp only at hSw); go_simp; try with_reducible rfl)
      try go_frame
      refine wpAnyH_ready (rs := [15]) (by kernel_rfl) (by simp) (AllReadyH.cons (o := { dst := some 66, op := Op.call { callee := Callee.value (Operand.func 13), args := #[Operand.tmp 65], argTypes := #[23] }, type := 3, pos := "law.go:37", after := #[{ on := 14, ground := Ground.data }, { on := 13, ground := Ground.chain }, { on := 13, ground := Ground.guard }], guard := some (13, false) }) rfl (fun K hK => ?_) AllReadyH.nil)
      go_simp
      refine (skew_ups HS2.out HS7.out HS.out (by omega) (w := _) (by exact C4.out)).mono ?_; rintro e w5 ⟨rfl, q5, rfl⟩
      try go_wp2_with fail
      refine hK.out _ _ (hyc4) (fun hHeld => ?_)
      clear hK K
      try go_frame
      refine wpAnyH_ready (rs := [17]) (by kernel_rfl) (by simp) (AllReadyH.cons (o := { dst := some 68, op := Op.call { callee := Callee.value (Operand.func 14), args := #[Operand.tmp 67], argTypes := #[27] }, type := 3, pos := "law.go:37", after := #[{ on := 16, ground := Ground.data }, { on := 15, ground := Ground.chain }, { on := 13, ground := Ground.guard }], guard := some (13, false) }) rfl (fun K hK => ?_) AllReadyH.nil)
      go_simp
      refine (refSkew_in HS2.out HS7.out (ups_low HS.out (by omega)) (w := _) (by exact H4.out)).mono ?_; rintro e w5 ⟨rfl, q6, rfl⟩
      try go_wp2_with fail
      refine hK.out _ _ (hyc4) (fun hHeld => ?_)
      clear hK K
      try go_frame
      refine' wpAnyH_take (i := 18) (oi := { dst := some 69, op := Op.binOp BinOp.neq 3 (Operand.tmp 66) (Operand.tmp 68) 3, type := 4, pos := "law.go:37", after := #[{ on := 15, ground := Ground.data }, { on := 17, ground := Ground.data }, { on := 13, ground := Ground.guard }], guard := some (13, false) }) rfl (by kernel_rfl) (by kernel_rfl) (by kernel_rfl) (fun _ _ _ h => h) (Or.inl ⟨by rfl, ?_⟩) (by assumption) ?_
      rotate_left
      · (intro w hSw; (try dsimp only at hSw); go_simp; try with_reducible rfl)
      try go_frame
      refine' wpAnyH_take (i := 19) (oi := { dst := some 70, op := Op.pick (Operand.tmp 64) (Operand.const (Value.bool true)) (Operand.tmp 69), type := 4, pos := "law.go:37", after := #[{ on := 13, ground := Ground.data }, { on := 18, ground := Ground.data }], guard := none }) rfl (by kernel_rfl) (by kernel_rfl) (by kernel_rfl) (fun _ _ _ h => h) (Or.inl ⟨by rfl, ?_⟩) (by assumption) ?_
      rotate_left
      · (intro w hSw; (try dsimp only at hSw); go_simp; try with_reducible rfl)
      try go_frame
      refine' wpAnyH_take (i := 20) (oi := { dst := some 71, op := Op.move (Operand.tmp 70), type := 4, pos := "law.go:37", after := #[{ on := 19, ground := Ground.data }, { on := 17, ground := Ground.chain }], guard := none }) rfl (by kernel_rfl) (by kernel_rfl) (by kernel_rfl) (fun _ _ _ h => h) (Or.inl ⟨by rfl, ?_⟩) (by assumption) ?_
      rotate_left
      · (intro w hSw; (try dsimp only at hSw); go_simp; try with_reducible rfl)
      try go_frame
      refine' wpAnyH_take (i := 21) (oi := { dst := some 72, op := Op.move (Operand.tmp 5), type := 23, pos := "law.go:37", after := #[{ on := 20, ground := Ground.guard }], guard := some (20, false) }) rfl (by kernel_rfl) (by kernel_rfl) (by kernel_rfl) (fun _ _ _ h => h) (Or.inl ⟨by rfl, ?_⟩) (by assumption) ?_
      rotate_left
      · (intro w hSw; (try dsimp only at hSw); go_simp; try with_reducible rfl)
      try go_frame
      refine' wpAnyH_take (i := 23) (oi := { dst := some 74, op := Op.move (Operand.tmp 7), type := 27, pos := "law.go:37", after := #[{ on := 20, ground := Ground.guard }], guard := some (20, false) }) rfl (by kernel_rfl) (by kernel_rfl) (by kernel_rfl) (fun _ _ _ h => h) (Or.inl ⟨by rfl, ?_⟩) (by assumption) ?_
      rotate_left
      · (intro w hSw; (try dsimp only at hSw); go_simp; try with_reducible rfl)
      try go_frame
      refine' wpAnyH_take (i := 24) (oi := { dst := some 75, op := Op.nilCheck (Operand.tmp 74), type := 0, pos := "law.go:37", after := #[{ on := 23, ground := Ground.data }, { on := 20, ground := Ground.guard }], guard := some (20, false) }) rfl (by kernel_rfl) (by kernel_rfl) (by kernel_rfl) (fun _ _ _ h => h) (Or.inl ⟨by rfl, ?_⟩) (by assumption) ?_
      rotate_left
      · (intro w hSw; (try dsimp only at hSw); go_simp; try with_reducible rfl)
      try go_frame
      refine' wpAnyH_take (i := 25) (oi := { dst := some 76, op := Op.fieldAddr 34 (Operand.tmp 75) 1, type := 0, pos := "law.go:37", after := #[{ on := 24, ground := Ground.data }, { on := 20, ground := Ground.guard }], guard := some (20, false) }) rfl (by kernel_rfl) (by kernel_rfl) (by kernel_rfl) (fun _ _ _ h => h) (Or.inl ⟨by rfl, ?_⟩) (by assumption) ?_
      rotate_left
      · (intro w hSw; (try dsimp only at hSw); go_simp; try with_reducible rfl)
      try go_frame
      refine wpAnyH_ready (rs := [22, 26]) (by kernel_rfl) (by simp) (AllReadyH.cons (o := { dst := some 73, op := Op.call { callee := Callee.value (Operand.func 15), args := #[Operand.tmp 72], argTypes := #[23] }, type := 3, pos := "law.go:37", after := #[{ on := 21, ground := Ground.data }, { on := 20, ground := Ground.chain }, { on := 20, ground := Ground.guard }], guard := some (20, false) }) rfl (fun K hK => ?_) (AllReadyH.cons (o := { dst := some 77, op := Op.load 3 (Operand.tmp 76), type := 3, pos := "law.go:37", after := #[{ on := 25, ground := Ground.data }, { on := 20, ground := Ground.guard }], guard := some (20, false) }) rfl (fun K hK => ?_) AllReadyH.nil))
      go_simp
      refine (worst_in HS2.out (w := _) (by exact C4.out)).mono ?_; rintro e w5 ⟨rfl, rfl⟩
      try go_wp2_with fail
      refine hK.out _ _ (hyc4) (fun hHeld => ?_)
      clear hK K
      try go_frame
      refine wpAnyH_ready (rs := [26]) (by kernel_rfl) (by simp) (AllReadyH.cons (o := { dst := some 77, op := Op.load 3 (Operand.tmp 76), type := 3, pos := "law.go:37", after := #[{ on := 25, ground := Ground.data }, { on := 20, ground := Ground.guard }], guard := some (20, false) }) rfl (fun K hK => ?_) AllReadyH.nil)
      go_simp
      refine hK.out _ _ (hyc4) (fun hHeld => ?_)
      clear hK K
      try go_frame
      refine' wpAnyH_take (i := 27) (oi := { dst := some 78, op := Op.binOp BinOp.neq 3 (Operand.tmp 73) (Operand.tmp 77) 3, type := 4, pos := "law.go:37", after := #[{ on := 22, ground := Ground.data }, { on := 26, ground := Ground.data }, { on := 20, ground := Ground.guard }], guard := some (20, false) }) rfl (by kernel_rfl) (by kernel_rfl) (by kernel_rfl) (fun _ _ _ h => h) (Or.inl ⟨by rfl, ?_⟩) (by assumption) ?_
      rotate_left
      · (intro w hSw; (try dsimp only at hSw); go_simp; try with_reducible rfl)
      try go_frame
      refine' wpAnyH_take (i := 28) (oi := { dst := some 79, op := Op.pick (Operand.tmp 71) (Operand.const (Value.bool true)) (Operand.tmp 78), type := 4, pos := "law.go:37", after := #[{ on := 20, ground := Ground.data }, { on := 27, ground := Ground.data }], guard := none }) rfl (by kernel_rfl) (by kernel_rfl) (by kernel_rfl) (fun _ _ _ h => h) (Or.inl ⟨by rfl, ?_⟩) (by assumption) ?_
      rotate_left
      · (intro w hSw; (try dsimp only at hSw); go_simp; try with_reducible rfl)
      try go_frame
      refine wpAnyH_done (by kernel_rfl) ?_ _
      rotate_left
      go_simp
      refine hK.out _ _ (hyc4) (fun hHeld => ?_)
      clear hK K
      try go_frame
      refine wpAnyH_ready (rs := [22]) (by kernel_rfl) (by simp) (AllReadyH.cons (o := { dst := some 73, op := Op.call { callee := Callee.value (Operand.func 15), args := #[Operand.tmp 72], argTypes := #[23] }, type := 3, pos := "law.go:37", after := #[{ on := 21, ground := Ground.data }, { on := 20, ground := Ground.chain }, { on := 20, ground := Ground.guard }], guard := some (20, false) }) rfl (fun K hK => ?_) AllReadyH.nil)
      go_simp
      refine (worst_in HS2.out (w := _) (by exact C4.out)).mono ?_; rintro e w5 ⟨rfl, rfl⟩
      try go_wp2_with fail
      refine hK.out _ _ (hyc4) (fun hHeld => ?_)
      clear hK K
      try go_frame
      refine' wpAnyH_take (i := 27) (oi := { dst := some 78, op := Op.binOp BinOp.neq 3 (Operand.tmp 73) (Operand.tmp 77) 3, type := 4, pos := "law.go:37", after := #[{ on := 22, ground := Ground.data }, { on := 26, ground := Ground.data }, { on := 20, ground := Ground.guard }], guard := some (20, false) }) rfl (by kernel_rfl) (by kernel_rfl) (by kernel_rfl) (fun _ _ _ h => h) (Or.inl ⟨by rfl, ?_⟩) (by assumption) ?_
      rotate_left
      · (intro w hSw; (try dsimp only at hSw); go_simp; try with_reducible rfl)
      try go_frame
      refine' wpAnyH_take (i := 28) (oi := { dst := some 79, op := Op.pick (Operand.tmp 71) (Operand.const (Value.bool true)) (Operand.tmp 78), type := 4, pos := "law.go:37", after := #[{ on := 20, ground := Ground.data }, { on := 27, ground := Ground.data }], guard := none }) rfl (by kernel_rfl) (by kernel_rfl) (by kernel_rfl) (fun _ _ _ h => h) (Or.inl ⟨by rfl, ?_⟩) (by assumption) ?_
      rotate_left
      · (intro w hSw; (try dsimp only at hSw); go_simp; try with_reducible rfl)
      try go_frame
      refine wpAnyH_done (by kernel_rfl) ?_ _
      all_goals
        (try go_wp2_with fail)
        refine (at_look HS2.out HS7.out y (w := _) (by exact C4.out)).mono ?_
        rintro e w5 ⟨rfl, rfl⟩
        go_wp2_with fail
        refine (refAt_look y (w := _) (by exact H4.out)).mono ?_
        rintro e w5 ⟨rfl, rfl⟩
        go_wp2_with fail
        go_roundw
        case rel => exact ⟨i + 1, d, by omega, by go_num, below_drewN (below_two (HB1.out.drew.grown G3.out (show B ≤ wr.heap.size by omega) (fun k hk => by cases hk; exact Nat.le_refl _)) G4.out (by omega) (by omega) (by omega)) (q5 + q6), C4.out, H4.out, HSn.out, HS.out⟩
        case measure => simp [intOf]; omega
    · obtain rfl : i = l.length := by omega
      have HH := Lib.hid hc
      have HR := Lib.hid hr
      have hBs : B < wr.heap.size := (Array.getElem?_eq_some_iff.1 hc).1
      have HBw := Lib.hid hB
      clear hc hr hu hB
      go_wp2_with fail
      go_loop [14] (fun p => ∃ k : Nat, k ≤ c.n + 2 ∧ p = .int .i64 ((k : Int) - 1)) (fun p => c.n + 2 - (intOf p + 1).toNat)
      case atStart => exact ⟨0, by omega, rfl⟩
      case round =>
        obtain ⟨k, hk2, rfl⟩ := hrel
        by_cases hlt2 : k < c.n + 2
        · go_wp2_with fail
          refine (at_look hn2 hn7 _ HH.out).mono ?_
          rintro e w5 ⟨rfl, rfl⟩
          go_wp2_with fail
          refine (refAt_look _ HR.out).mono ?_
          rintro e w5 ⟨rfl, rfl⟩
          go_wp2_with fail
          go_round
          case rel => exact ⟨k + 1, by omega, by go_num⟩
          case measure => simp [intOf]; omega
        · obtain rfl : k = c.n + 2 := by omega
          go_wp2_with fail
          refine (works_any _).mono ?_
          rintro e w5 ⟨rfl, b5⟩
          go_wp2
          go_ret
          exact ⟨rfl, HBw.out.trans (b5.mono (by omega))⟩

set_option maxRecDepth 100000 in
set_option maxHeartbeats 1000000 in
theorem clocksPlay_walk (n : Int) (l : List Int) (v : Value) (_ : (Lit.int .i64 n).wf = true) (_ : ∀ n ∈ l, (Lit.int .i64 n).wf = true) (w : World) (hv : IntsIn .i64 w v l) :
    Calls Try.prog 3 #[.int .i64 n, v] w fun e w' => e = .returned (.bool true) ∧ Below w.heap.size w w' := by
  by_cases hk : l.length ≤ 2000
  · by_cases hn : 2 ≤ n ∧ n ≤ 7
    · obtain ⟨m, rfl⟩ : ∃ m : Nat, n = (m : Int) := ⟨n.toNat, by omega⟩
      exact play_yes m (by omega) (by omega) l v hk w hv
    · have hn2 : n < 2 ∨ 7 < n := by omega
      have HN := Lib.hid hn2
      obtain ⟨⟨ad, cap, rfl, _⟩, _⟩ := hv
      have d1 : decide ((2000 : Int) < (l.length : Int)) = false := by rw [decide_eq_false_iff_not]; omega
      clear hn hn2
      go_enter Try.func3, Try.ntmps3
      go_wp2_with fail
      refine (new_no n HN.out _).mono ?_
      rintro e w1 ⟨rfl, rfl⟩
      go_wp2_with fail
      refine (refNew_no n HN.out _).mono ?_
      rintro e w1 ⟨rfl, rfl⟩
      go_wp2_with fail
      refine (works_any _).mono ?_
      rintro e w1 ⟨rfl, b1⟩
      go_wp2
      go_ret
      exact ⟨rfl, b1⟩
  · obtain ⟨⟨ad, cap, rfl, _⟩, _⟩ := hv
    go_enter Try.func3, Try.ntmps3
    go_wp2
    go_ret
    exact ⟨rfl, Below.refl _ _⟩
end Go.Proofs.Ytahcfhdehdbnmaa
