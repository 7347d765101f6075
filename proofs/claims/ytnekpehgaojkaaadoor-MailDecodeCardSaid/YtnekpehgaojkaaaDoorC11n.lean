/- mail.Encode. (Printed by wip/src/XC11n.py.) -/
import Derived.Test.YtnekpehgaojkaaaDoorC11i
namespace Go.Proofs.YtnekpehgaojkaaaDoor
open Go.RowKit

theorem mailAt.tail {w : World} {g : Nat} {m : MNum} {ve : Value} (h : mailAt w g m ve) : w.cell? ⟨g, 10, none⟩ = some (.int .i64 m.ord.id) ∧ w.cell? ⟨g, 11, none⟩ = some (.int .i64 m.ord.stream) ∧ w.cell? ⟨g, 12, none⟩ = some (.int .i64 m.ord.expect) ∧ w.cell? ⟨g, 13, none⟩ = some (.int .i64 m.ord.kind) ∧ w.cell? ⟨g, 14, none⟩ = some (.int .i64 m.ord.arg) ∧ w.cell? ⟨g, 15, none⟩ = some (.int .i64 m.ans.id) ∧ w.cell? ⟨g, 16, none⟩ = some (.int .i64 m.ans.code) ∧ w.cell? ⟨g, 17, none⟩ = some (.int .i64 m.ans.ver) := by
  obtain ⟨h0, h1, h2, h3, h4, h5, h6, h7, h8, h9, h10, h11, h12, h13, h14, h15, h16, h17⟩ := h
  exact ⟨h10, h11, h12, h13, h14, h15, h16, h17⟩
set_option maxRecDepth 100000 in
set_option maxHeartbeats 8000000 in
theorem encodeM_yes {B : Nat} {w : World} {m : MNum} {n : Int} {ae : Option Addr} {ce : Nat} {es : List Ent} (hK : KindsAt w) (he : EntsAt B w (.slice ae es.length ce) es) (hm : MNumOk m) (hoe : EntsOk es) (h : mayM m es n = true) :
    Calls Tryd.prog 9 #[.agg #[.int .i64 m.kind, .int .i64 m.frm, .int .i64 m.dst, .int .i64 m.stream, .int .i64 m.epoch, .int .i64 m.view, .int .i64 m.base, .int .i64 m.length, .int .i64 m.stamp, .slice ae es.length ce, .int .i64 m.ord.id, .int .i64 m.ord.stream, .int .i64 m.ord.expect, .int .i64 m.ord.kind, .int .i64 m.ord.arg, .int .i64 m.ans.id, .int .i64 m.ans.code, .int .i64 m.ans.ver], .int .i64 n] w fun e w' => e = .returned (.tuple #[.string (str (encM m es)), .int .i64 0]) ∧ Below w.heap.size w w' := by
  have hl := mayM_small h
  obtain ⟨w1, e1, b1, s1, g1⟩ := boxed w (mailCells m (.slice ae es.length ce)) 28
  have E1 := Lib.hid (show w.alloc (.cells #[.int .i64 m.kind, .int .i64 m.frm, .int .i64 m.dst, .int .i64 m.stream, .int .i64 m.epoch, .int .i64 m.view, .int .i64 m.base, .int .i64 m.length, .int .i64 m.stamp, .slice ae es.length ce, .int .i64 m.ord.id, .int .i64 m.ord.stream, .int .i64 m.ord.expect, .int .i64 m.ord.kind, .int .i64 m.ord.arg, .int .i64 m.ans.id, .int .i64 m.ans.code, .int .i64 m.ans.ver] 28) = w1 from e1)
  have R1 := Lib.hid (mail_cells g1)
  have hrg : w1.rangeAt w.heap.size 0 (mailCells m (.slice ae es.length ce)).toList := msg_range g1
  have HM := Lib.hid (may_m (hK.below b1 hK.pos) (he.below b1) (by omega) h)
  have HE1 := Lib.hid ((he.below b1).rebase w1.heap.size (Nat.le_refl _))
  have HN := Lib.hid hm
  have HOE := Lib.hid hoe
  clear e1 g1 he hK h hm hoe
  go_enter Tryd.func9, Tryd.ntmps9
  go_upto_region 1 with fail
  rw [E1.out]
  go_wp2_with (refine wpList_load_mid rfl _ _ rfl _ _ rfl _ _ hrg Tryd.underlying28 rfl (by kernel_rfl) ?_)
  refine HM.out.mono ?_
  rintro e w2 ⟨rfl, b2⟩
  clear hrg
  have s2 := b2.size
  have hlt : w.heap.size < w1.heap.size := by omega
  obtain ⟨c0, c1, c2, c3, c4, c5, c6, c7, c8, c9, c10, c11, c12, c13, c14, c15, c16, c17⟩ := R1.out.belowB hlt b2
  obtain ⟨w3, e3, b3, s3, n3, g3⟩ := built w2 m.nums
  have E3 := Lib.hid (show w2.alloc (.cells #[.int .i64 m.kind, .int .i64 m.frm, .int .i64 m.dst, .int .i64 m.stream, .int .i64 m.epoch, .int .i64 m.view, .int .i64 m.base, .int .i64 m.length, .int .i64 m.stamp] 3) = w3 from e3)
  have HX := Lib.hid (ints_any (B := w1.heap.size) (w := w3) (v := .slice none 0 0) (l := []) (World.ownsRow_nil _ _ _ _) (by omega) m.nums (by show 0 + 10 * 9 ≤ _; omega) HN.out.1 (g := w2.heap.size) (by omega) n3 g3 (cap := 9))
  have hK3 : Kept w1.heap.size w1 w3 := (Kept.of_below b2 (Nat.le_refl _)).trans (Kept.of_below b3 (by omega))
  rw [List.nil_append] at HX
  have HE3 := Lib.hid (HE1.out.kept hK3)
  clear e3 n3 g3
  go_wp2_with fail
  rw [E3.out]
  refine HX.out.mono ?_
  rintro e w4 ⟨v4, rfl, hb4, hk4⟩
  clear c0 c1 c2 c3 c4 c5 c6 c7 c8 c9 c10 c11 c12 c13 c14 c15 c16 c17
  have hK4 := hK3.trans hk4
  obtain ⟨c0, c1, c2, c3, c4, c5, c6, c7, c8, c9, c10, c11, c12, c13, c14, c15, c16, c17⟩ := R1.out.belowB hlt hK4.below
  have s4 := hk4.size
  have pl := putL_len m.nums
  have pn : m.nums.length = 9 := rfl
  have HX2 := Lib.hid (entList_any hb4 (by omega) (HE3.out.kept hk4) HOE.out (by omega))
  clear hb4
  go_wp2_with fail
  refine HX2.out.mono ?_
  rintro e w5 ⟨v5, rfl, hb5, hk5⟩
  clear c0 c1 c2 c3 c4 c5 c6 c7 c8 c9 c10 c11 c12 c13 c14 c15 c16 c17
  have hK5 := hK4.trans hk5
  have s5 := hk5.size
  have R5 := Lib.hid (R1.out.belowB hlt hK5.below)
  obtain ⟨c0, c1, c2, c3, c4, c5, c6, c7, c8, c9, c10, c11, c12, c13, c14, c15, c16, c17⟩ := R5.out
  have pl2 := putL_len [(es.length : Int)]
  rw [List.length_singleton] at pl2
  have pe := entsL_len es
  have po := putL_len m.ord.nums
  have pon : m.ord.nums.length = 5 := rfl
  have hl5 : (putL m.nums ++ putL [(es.length : Int)] ++ entsL es).length ≤ 4000 := by simp only [List.length_append]; omega
  generalize hL5 : putL m.nums ++ putL [(es.length : Int)] ++ entsL es = l5 at *
  have HLE := Lib.hid (show l5 ++ putL m.ord.nums ++ putL m.ans.nums = encM m es by rw [← hL5]; rfl)
  have hl6 : (l5 ++ putL m.ord.nums).length ≤ 4100 := by rw [List.length_append]; omega
  obtain ⟨w5b, e5b, b5b, s5b, n5b, g5b⟩ : ∃ wb, (w5.alloc (.cells #[.int .i64 m.ans.id, .int .i64 m.ans.code, .int .i64 m.ans.ver] 3)).drew = wb ∧ Below w5.heap.size w5 wb ∧ wb.heap.size = w5.heap.size + 1 ∧ NoBytes wb w5.heap.size ∧ ∀ j (h : j < m.ans.nums.length), wb.cell? ⟨w5.heap.size, 0 + j, none⟩ = some (.int .i64 m.ans.nums[j]) := by
    obtain ⟨wa, ea, ba, sa, na, ga⟩ := built w5 m.ans.nums
    exact ⟨wa.drew, by rw [← ea]; rfl, ba.drew, sa, na, ga⟩
  have E5b := Lib.hid e5b
  have hb5b := Lib.hid (buf_below hb5 b5b)
  have hb5d := Lib.hid (show BufAt w1.heap.size w5.drew v5 l5 from hb5)
  have HB5 := Lib.hid hb5
  have N5b := Lib.hid n5b
  have G5b := Lib.hid g5b
  have k5b : Kept w1.heap.size w5 w5b := Kept.of_below b5b (by omega)
  have k5d : Kept w1.heap.size w5 w5.drew := ⟨(Below.refl _ _).drew, fun _ _ _ => rfl⟩
  have K5b := R5.out.belowB hlt k5b.below
  have K5d := R5.out.belowB hlt k5d.below
  have hd5 : w5.drew.heap.size = w5.heap.size := rfl
  have hls5 : w1.heap.size ≤ w5.heap.size := by omega
  clear hb5 e5b n5b g5b hL5
  go_wp2_with fail
  refine wp_region_held_drew (S := fun w' => w'.cell? ⟨w.heap.size, 10, none⟩ = some (.int .i64 m.ord.id) ∧ w'.cell? ⟨w.heap.size, 11, none⟩ = some (.int .i64 m.ord.stream) ∧ w'.cell? ⟨w.heap.size, 12, none⟩ = some (.int .i64 m.ord.expect) ∧ w'.cell? ⟨w.heap.size, 13, none⟩ = some (.int .i64 m.ord.kind) ∧ w'.cell? ⟨w.heap.size, 14, none⟩ = some (.int .i64 m.ord.arg) ∧ w'.cell? ⟨w.heap.size, 15, none⟩ = some (.int .i64 m.ans.id) ∧ w'.cell? ⟨w.heap.size, 16, none⟩ = some (.int .i64 m.ans.code) ∧ w'.cell? ⟨w.heap.size, 17, none⟩ = some (.int .i64 m.ans.ver)) (by kernel_rfl) K5d.tail (fun hHeld => ?_)
  refine' wpAnyH_take (i := 0) (oi := { dst := some 35, op := Op.move (Operand.tmp 6), type := 48, pos := "mail.go:91", after := #[], guard := none }) rfl (by kernel_rfl) (by kernel_rfl) (by kernel_rfl) (fun _ _ _ h => h) (Or.inl ⟨by rfl, ?_⟩) (by assumption) ?_
  rotate_left
  · (intro w hSw; (try dsimp only at hSw); go_simp; try with_reducible rfl)
  try go_frame
  refine' wpAnyH_take (i := 1) (oi := { dst := some 36, op := Op.fieldAddr 28 (Operand.tmp 2) 10, type := 0, pos := "mail.go:91", after := #[], guard := none }) rfl (by kernel_rfl) (by kernel_rfl) (by kernel_rfl) (fun _ _ _ h => h) (Or.inl ⟨by rfl, ?_⟩) (by assumption) ?_
  rotate_left
  · (intro w hSw; (try dsimp only at hSw); go_simp; try with_reducible rfl)
  try go_frame
  refine' wpAnyH_take (i := 2) (oi := { dst := some 37, op := Op.load 24 (Operand.tmp 36), type := 24, pos := "mail.go:91", after := #[{ on := 1, ground := Ground.data }], guard := none }) rfl (by kernel_rfl) (by kernel_rfl) (by kernel_rfl) (fun _ _ _ h => h) (Or.inl ⟨by rfl, ?_⟩) (by assumption) ?_
  rotate_left
  · (intro w hSw; (try dsimp only at hSw); go_simp; try with_reducible rfl)
  try go_frame
  refine' wpAnyH_take (i := 4) (oi := { dst := some 39, op := Op.fieldAddr 28 (Operand.tmp 2) 11, type := 0, pos := "mail.go:91", after := #[], guard := none }) rfl (by kernel_rfl) (by kernel_rfl) (by kernel_rfl) (fun _ _ _ h => h) (Or.inl ⟨by rfl, ?_⟩) (by assumption) ?_
  rotate_left
  · (intro w hSw; (try dsimp only at hSw); go_simp; try with_reducible rfl)
  try go_frame
  refine' wpAnyH_take (i := 5) (oi := { dst := some 40, op := Op.fieldAddr 26 (Operand.tmp 39) 0, type := 0, pos := "mail.go:91", after := #[{ on := 4, ground := Ground.data }], guard := none }) rfl (by kernel_rfl) (by kernel_rfl) (by kernel_rfl) (fun _ _ _ h => h) (Or.inl ⟨by rfl, ?_⟩) (by assumption) ?_
  rotate_left
  · (intro w hSw; (try dsimp only at hSw); go_simp; try with_reducible rfl)
  try go_frame
  refine' wpAnyH_take (i := 6) (oi := { dst := some 41, op := Op.load 3 (Operand.tmp 40), type := 3, pos := "mail.go:91", after := #[{ on := 5, ground := Ground.data }], guard := none }) rfl (by kernel_rfl) (by kernel_rfl) (by kernel_rfl) (fun _ _ _ h => h) (Or.inl ⟨by rfl, ?_⟩) (by assumption) ?_
  rotate_left
  · (intro w hSw; (try dsimp only at hSw); go_simp; try with_reducible rfl)
  try go_frame
  refine' wpAnyH_take (i := 7) (oi := { dst := some 42, op := Op.fieldAddr 28 (Operand.tmp 2) 11, type := 0, pos := "mail.go:91", after := #[], guard := none }) rfl (by kernel_rfl) (by kernel_rfl) (by kernel_rfl) (fun _ _ _ h => h) (Or.inl ⟨by rfl, ?_⟩) (by assumption) ?_
  rotate_left
  · (intro w hSw; (try dsimp only at hSw); go_simp; try with_reducible rfl)
  try go_frame
  refine' wpAnyH_take (i := 8) (oi := { dst := some 43, op := Op.fieldAddr 26 (Operand.tmp 42) 1, type := 0, pos := "mail.go:91", after := #[{ on := 7, ground := Ground.data }], guard := none }) rfl (by kernel_rfl) (by kernel_rfl) (by kernel_rfl) (fun _ _ _ h => h) (Or.inl ⟨by rfl, ?_⟩) (by assumption) ?_
  rotate_left
  · (intro w hSw; (try dsimp only at hSw); go_simp; try with_reducible rfl)
  try go_frame
  refine' wpAnyH_take (i := 9) (oi := { dst := some 44, op := Op.load 3 (Operand.tmp 43), type := 3, pos := "mail.go:91", after := #[{ on := 8, ground := Ground.data }], guard := none }) rfl (by kernel_rfl) (by kernel_rfl) (by kernel_rfl) (fun _ _ _ h => h) (Or.inl ⟨by rfl, ?_⟩) (by assumption) ?_
  rotate_left
  · (intro w hSw; (try dsimp only at hSw); go_simp; try with_reducible rfl)
  try go_frame
  refine' wpAnyH_take (i := 10) (oi := { dst := some 45, op := Op.fieldAddr 28 (Operand.tmp 2) 11, type := 0, pos := "mail.go:91", after := #[], guard := none }) rfl (by kernel_rfl) (by kernel_rfl) (by kernel_rfl) (fun _ _ _ h => h) (Or.inl ⟨by rfl, ?_⟩) (by assumption) ?_
  rotate_left
  · (intro w hSw; (try dsimp only at hSw); go_simp; try with_reducible rfl)
  try go_frame
  refine' wpAnyH_take (i := 11) (oi := { dst := some 46, op := Op.fieldAddr 26 (Operand.tmp 45) 2, type := 0, pos := "mail.go:91", after := #[{ on := 10, ground := Ground.data }], guard := none }) rfl (by kernel_rfl) (by kernel_rfl) (by kernel_rfl) (fun _ _ _ h => h) (Or.inl ⟨by rfl, ?_⟩) (by assumption) ?_
  rotate_left
  · (intro w hSw; (try dsimp only at hSw); go_simp; try with_reducible rfl)
  try go_frame
  refine' wpAnyH_take (i := 12) (oi := { dst := some 47, op := Op.load 3 (Operand.tmp 46), type := 3, pos := "mail.go:91", after := #[{ on := 11, ground := Ground.data }], guard := none }) rfl (by kernel_rfl) (by kernel_rfl) (by kernel_rfl) (fun _ _ _ h => h) (Or.inl ⟨by rfl, ?_⟩) (by assumption) ?_
  rotate_left
  · (intro w hSw; (try dsimp only at hSw); go_simp; try with_reducible rfl)
  try go_frame
  refine wpAnyH_ready (rs := [3, 13]) (by kernel_rfl) (by simp) (AllReadyH.cons (o := { dst := some 38, op := Op.call { callee := Callee.value (Operand.func 23), args := #[Operand.tmp 35, Operand.tmp 37], argTypes := #[48, 24] }, type := 48, pos := "mail.go:91", after := #[{ on := 0, ground := Ground.data }, { on := 2, ground := Ground.data }], guard := none }) rfl (fun K hK => ?_) (AllReadyH.cons (o := { dst := some 48, op := Op.buildSlice 78 3 #[(0, Operand.tmp 41), (1, Operand.tmp 44), (2, Operand.tmp 47)], type := 78, pos := "mail.go:91", after := #[{ on := 6, ground := Ground.data }, { on := 9, ground := Ground.data }, { on := 12, ground := Ground.data }], guard := none }) rfl (fun K hK => ?_) AllReadyH.nil))
  · try skip
    go_simp
    refine (order_any hb5d.out (by omega) m.ord HN.out.2.1 (by omega)).mono ?_; rintro e w6 ⟨v6, rfl, hb6, hk6⟩; have k6 := k5d.trans hk6; have q6 := R5.out.belowB hlt k6.below; have s6 := hk6.size; have H6 := Lib.hid hb6; obtain ⟨w6b, e6b, b6b, s6b, n6b, g6b⟩ := built w6 m.ans.nums; have E6b := Lib.hid (show w6.alloc (.cells #[.int .i64 m.ans.id, .int .i64 m.ans.code, .int .i64 m.ans.ver] 3) = w6b from e6b); have HB6b := Lib.hid (buf_below hb6 b6b); have N6b := Lib.hid n6b; have G6b := Lib.hid g6b; have k6b := k6.trans (Kept.of_below b6b (by omega)); have q6b := R5.out.belowB hlt k6b.below; clear hb6 e6b n6b g6b
    try go_wp2_with fail
    refine hK.out _ _ (q6.tail) (fun hHeld => ?_)
    clear hK K
    try go_frame
    refine wpAnyH_ready (rs := [13]) (by kernel_rfl) (by simp) (AllReadyH.cons (o := { dst := some 48, op := Op.buildSlice 78 3 #[(0, Operand.tmp 41), (1, Operand.tmp 44), (2, Operand.tmp 47)], type := 78, pos := "mail.go:91", after := #[{ on := 6, ground := Ground.data }, { on := 9, ground := Ground.data }, { on := 12, ground := Ground.data }], guard := none }) rfl (fun K hK => ?_) AllReadyH.nil)
    go_simp
    refine hK.out _ _ (by rw [E6b.out]; exact q6b.tail) (fun hHeld => ?_)
    clear hK K
    try go_frame
    refine wpAnyH_ready (rs := [14]) (by kernel_rfl) (by simp) (AllReadyH.cons (o := { dst := some 49, op := Op.call { callee := Callee.value (Operand.func 20), args := #[Operand.tmp 38, Operand.tmp 48], argTypes := #[48, 78] }, type := 48, pos := "mail.go:91", after := #[{ on := 3, ground := Ground.data }, { on := 13, ground := Ground.data }, { on := 3, ground := Ground.chain }], guard := none }) rfl (fun K hK => ?_) AllReadyH.nil)
    go_simp
    rw [E6b.out]; refine (ints_any HB6b.out (by omega) m.ans.nums (by have : m.ans.nums.length = 3 := rfl; omega) HN.out.2.2 (g := w6.heap.size) (by omega) N6b.out G6b.out (cap := 3)).mono ?_; rintro e w7 ⟨v7, rfl, hb7, hk7⟩; have k7 := k6b.trans hk7; have q7 := R5.out.belowB hlt k7.below; rw [HLE.out] at hb7; have hcv := run_string_owned (l := encM m es) (w := w7) (B := w1.heap.size) (v := v7) hb7 (encM_ne m es); clear hb7
    try go_wp2_with fail
    refine hK.out _ _ (q7.tail) (fun hHeld => ?_)
    clear hK K
    try go_frame
    refine wpAnyH_ready (rs := [15]) (by kernel_rfl) (by simp) (AllReadyH.cons (o := { dst := some 50, op := Op.convert 48 9 (Operand.tmp 49), type := 9, pos := "mail.go:91", after := #[{ on := 14, ground := Ground.data }], guard := none }) rfl (fun K hK => ?_) AllReadyH.nil)
    go_simp
    refine hK.out _ _ (q7.tail) (fun hHeld => ?_)
    clear hK K
    try go_frame
    refine' wpAnyH_take (i := 16) (oi := { dst := some 4, op := Op.assign (Operand.tmp 50), type := 9, pos := "mail.go:91", after := #[{ on := 15, ground := Ground.data }, { on := 14, ground := Ground.chain }, { on := 0, ground := Ground.phase }, { on := 1, ground := Ground.phase }, { on := 2, ground := Ground.phase }, { on := 3, ground := Ground.phase }, { on := 4, ground := Ground.phase }, { on := 5, ground := Ground.phase }, { on := 6, ground := Ground.phase }, { on := 7, ground := Ground.phase }, { on := 8, ground := Ground.phase }, { on := 9, ground := Ground.phase }, { on := 10, ground := Ground.phase }, { on := 11, ground := Ground.phase }, { on := 12, ground := Ground.phase }, { on := 13, ground := Ground.phase }, { on := 14, ground := Ground.phase }, { on := 15, ground := Ground.phase }], guard := none }) rfl (by kernel_rfl) (by kernel_rfl) (by kernel_rfl) (fun _ _ _ h => h) (Or.inl ⟨by rfl, ?_⟩) (by assumption) ?_
    rotate_left
    · (intro w hSw; (try dsimp only at hSw); go_simp; try with_reducible rfl)
    try go_frame
    refine' wpAnyH_take (i := 17) (oi := { dst := some 5, op := Op.assign (Operand.const (Value.int IntKind.i64 0)), type := 31, pos := "mail.go:91", after := #[{ on := 16, ground := Ground.chain }, { on := 0, ground := Ground.phase }, { on := 1, ground := Ground.phase }, { on := 2, ground := Ground.phase }, { on := 3, ground := Ground.phase }, { on := 4, ground := Ground.phase }, { on := 5, ground := Ground.phase }, { on := 6, ground := Ground.phase }, { on := 7, ground := Ground.phase }, { on := 8, ground := Ground.phase }, { on := 9, ground := Ground.phase }, { on := 10, ground := Ground.phase }, { on := 11, ground := Ground.phase }, { on := 12, ground := Ground.phase }, { on := 13, ground := Ground.phase }, { on := 14, ground := Ground.phase }, { on := 15, ground := Ground.phase }, { on := 16, ground := Ground.phase }], guard := none }) rfl (by kernel_rfl) (by kernel_rfl) (by kernel_rfl) (fun _ _ _ h => h) (Or.inl ⟨by rfl, ?_⟩) (by assumption) ?_
    rotate_left
    · (intro w hSw; (try dsimp only at hSw); go_simp; try with_reducible rfl)
    try go_frame
    refine wpAnyH_done (by kernel_rfl) ?_ _
    have B7 := b1.trans ((hK5.trans k7).below.mono b1.size)
    go_wp2
    go_ret2
    exact ⟨rfl, B7⟩
  · try skip
    go_simp
    refine hK.out _ _ (by rw [E5b.out]; exact K5b.tail) (fun hHeld => ?_)
    clear hK K
    try go_frame
    refine wpAnyH_ready (rs := [3]) (by kernel_rfl) (by simp) (AllReadyH.cons (o := { dst := some 38, op := Op.call { callee := Callee.value (Operand.func 23), args := #[Operand.tmp 35, Operand.tmp 37], argTypes := #[48, 24] }, type := 48, pos := "mail.go:91", after := #[{ on := 0, ground := Ground.data }, { on := 2, ground := Ground.data }], guard := none }) rfl (fun K hK => ?_) AllReadyH.nil)
    go_simp
    rw [E5b.out]; refine (order_any hb5b.out (by omega) m.ord HN.out.2.1 (by omega)).mono ?_; rintro e w6 ⟨v6, rfl, hb6, hk6⟩; have k6a := k5b.trans hk6; have q6 := R5.out.belowB hlt k6a.below; have s6 := hk6.size; have H6a := Lib.hid hb6; have N6a := Lib.hid (hk6.no (by omega) N5b.out); have G6a := Lib.hid (fun j (h : j < m.ans.nums.length) => (hk6.cell (p := ⟨w5.heap.size, 0 + j, none⟩) (by show w5.heap.size < w5b.heap.size; omega) N5b.out).trans (G5b.out j h)); clear hb6
    try go_wp2_with fail
    refine hK.out _ _ (q6.tail) (fun hHeld => ?_)
    clear hK K
    try go_frame
    refine wpAnyH_ready (rs := [14]) (by kernel_rfl) (by simp) (AllReadyH.cons (o := { dst := some 49, op := Op.call { callee := Callee.value (Operand.func 20), args := #[Operand.tmp 38, Operand.tmp 48], argTypes := #[48, 78] }, type := 48, pos := "mail.go:91", after := #[{ on := 3, ground := Ground.data }, { on := 13, ground := Ground.data }, { on := 3, ground := Ground.chain }], guard := none }) rfl (fun K hK => ?_) AllReadyH.nil)
    go_simp
    refine (ints_any H6a.out (by omega) m.ans.nums (by have : m.ans.nums.length = 3 := rfl; omega) HN.out.2.2 (g := w5.heap.size) (by omega) N6a.out G6a.out (cap := 3)).mono ?_; rintro e w7 ⟨v7, rfl, hb7, hk7⟩; have k7 := k6a.trans hk7; have q7 := R5.out.belowB hlt k7.below; rw [HLE.out] at hb7; have hcv := run_string_owned (l := encM m es) (w := w7) (B := w1.heap.size) (v := v7) hb7 (encM_ne m es); clear hb7
    try go_wp2_with fail
    refine hK.out _ _ (q7.tail) (fun hHeld => ?_)
    clear hK K
    try go_frame
    refine wpAnyH_ready (rs := [15]) (by kernel_rfl) (by simp) (AllReadyH.cons (o := { dst := some 50, op := Op.convert 48 9 (Operand.tmp 49), type := 9, pos := "mail.go:91", after := #[{ on := 14, ground := Ground.data }], guard := none }) rfl (fun K hK => ?_) AllReadyH.nil)
    go_simp
    refine hK.out _ _ (q7.tail) (fun hHeld => ?_)
    clear hK K
    try go_frame
    refine' wpAnyH_take (i := 16) (oi := { dst := some 4, op := Op.assign (Operand.tmp 50), type := 9, pos := "mail.go:91", after := #[{ on := 15, ground := Ground.data }, { on := 14, ground := Ground.chain }, { on := 0, ground := Ground.phase }, { on := 1, ground := Ground.phase }, { on := 2, ground := Ground.phase }, { on := 3, ground := Ground.phase }, { on := 4, ground := Ground.phase }, { on := 5, ground := Ground.phase }, { on := 6, ground := Ground.phase }, { on := 7, ground := Ground.phase }, { on := 8, ground := Ground.phase }, { on := 9, ground := Ground.phase }, { on := 10, ground := Ground.phase }, { on := 11, ground := Ground.phase }, { on := 12, ground := Ground.phase }, { on := 13, ground := Ground.phase }, { on := 14, ground := Ground.phase }, { on := 15, ground := Ground.phase }], guard := none }) rfl (by kernel_rfl) (by kernel_rfl) (by kernel_rfl) (fun _ _ _ h => h) (Or.inl ⟨by rfl, ?_⟩) (by assumption) ?_
    rotate_left
    · (intro w hSw; (try dsimp only at hSw); go_simp; try with_reducible rfl)
    try go_frame
    refine' wpAnyH_take (i := 17) (oi := { dst := some 5, op := Op.assign (Operand.const (Value.int IntKind.i64 0)), type := 31, pos := "mail.go:91", after := #[{ on := 16, ground := Ground.chain }, { on := 0, ground := Ground.phase }, { on := 1, ground := Ground.phase }, { on := 2, ground := Ground.phase }, { on := 3, ground := Ground.phase }, { on := 4, ground := Ground.phase }, { on := 5, ground := Ground.phase }, { on := 6, ground := Ground.phase }, { on := 7, ground := Ground.phase }, { on := 8, ground := Ground.phase }, { on := 9, ground := Ground.phase }, { on := 10, ground := Ground.phase }, { on := 11, ground := Ground.phase }, { on := 12, ground := Ground.phase }, { on := 13, ground := Ground.phase }, { on := 14, ground := Ground.phase }, { on := 15, ground := Ground.phase }, { on := 16, ground := Ground.phase }], guard := none }) rfl (by kernel_rfl) (by kernel_rfl) (by kernel_rfl) (fun _ _ _ h => h) (Or.inl ⟨by rfl, ?_⟩) (by assumption) ?_
    rotate_left
    · (intro w hSw; (try dsimp only at hSw); go_simp; try with_reducible rfl)
    try go_frame
    refine wpAnyH_done (by kernel_rfl) ?_ _
    have B7 := b1.trans ((hK5.trans k7).below.mono b1.size)
    go_wp2
    go_ret2
    exact ⟨rfl, B7⟩
end Go.Proofs.YtnekpehgaojkaaaDoor
