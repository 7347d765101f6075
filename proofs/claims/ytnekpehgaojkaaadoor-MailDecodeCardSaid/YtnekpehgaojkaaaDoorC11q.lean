/- works of layer 11. -/
import Derived.Test.YtnekpehgaojkaaaDoorC11p
import Derived.Test.YtnekpehgaojkaaaDoorC11m
import Derived.Test.YtnekpehgaojkaaaDoorMid
namespace Go.Proofs.YtnekpehgaojkaaaDoor
open Go.RowKit

theorem ents_none (B : Nat) (w : World) (a : Option Addr) (c : Nat) : EntsAt B w (.slice a ([] : List Ent).length c) [] := ⟨a, c, rfl, fun h => absurd rfl h⟩
theorem msg_one (m : MNum) (a : Option Addr) (k c : Nat) : (mailCells m (.slice a k c)).all (·.oneCell') = true := by simp [mailCells, Value.oneCell']
/-- A message in a box of its own, stored there. -/
theorem fresh_msg (w : World) (cs : Array Value) (t : TypeId) : ∃ w', (w.alloc (.cells #[.int .i64 0, .int .i64 0, .int .i64 0, .int .i64 0, .int .i64 0, .int .i64 0, .int .i64 0, .int .i64 0, .int .i64 0, .slice none 0 0, .int .i64 0, .int .i64 0, .int .i64 0, .int .i64 0, .int .i64 0, .int .i64 0, .int .i64 0, .int .i64 0] t)).setRow w.heap.size cs = w' ∧
    Below w.heap.size w w' ∧ w'.heap.size = w.heap.size + 1 ∧ w'.heap[w.heap.size]? = some (.cells cs t (0, 0)) :=
  ⟨_, rfl, below_setRow ((Below.refl _ _).alloc (Nat.le_refl _) _) (Nat.le_refl _) _, by simp, setRow_heap _ _ _ _ _ _ (World.alloc_heap_new w _)⟩
def exM : MNum := ⟨5, 1, 0, 2, 3, 0, 0, 1, 5, noOrd, ⟨0, 0, 0⟩⟩
def exV : MNum := ⟨5, 1, 0, 2, 3, 1, 0, 1, 5, noOrd, ⟨0, 0, 0⟩⟩
theorem exM_set5 (ve : Value) : (mailCells exM ve).setIfInBounds 5 (.int .i64 1) = mailCells exV ve := by simp [mailCells, exM, exV]
theorem ex_mayM3 : mayM exM [] 3 = true := by decide +kernel
theorem ex_mayM2 : mayM exM [] 2 = true := by decide +kernel
theorem ex_mayM1 : mayM exM [] 1 = false := by decide +kernel
theorem ex_mayV3 : mayM exV [] 3 = false := by decide +kernel
theorem ex_encM : encM exM [] = [10, 2, 0, 4, 6, 0, 0, 2, 10, 0, 0, 0, 0, 0, 0, 0, 0, 0] := by decide +kernel
theorem ok_mnum (m : MNum) (h : (m.nums ++ m.ord.nums ++ m.ans.nums).all (fun x => decide (-9223372036854775808 ≤ x) && decide (x ≤ 9223372036854775807)) = true) : MNumOk m := by
  refine ⟨fun x hx => ?_, fun x hx => ?_, fun x hx => ?_⟩
  all_goals
    have := List.all_eq_true.1 h x (by simp [hx])
    simpa using this
theorem ex_okM : MNumOk exM := ok_mnum _ (by decide)
theorem ex_decM : decM [10, 2, 0, 4, 6, 0, 0, 2, 10, 0, 0, 0, 0, 0, 0, 0, 0, 0] 3 = some (exM, []) := by
  have := dec_encM (n := 3) ex_okM (es := []) (by simp [EntsOk]) ex_mayM3
  rw [ex_encM] at this
  exact this
theorem str_nil : str [] = ⟨#[]⟩ := rfl
set_option maxHeartbeats 2000000 in
theorem checkM_any {B : Nat} {w : World} (m : MNum) (n : Int) {ae : Option Addr} {ce : Nat} {es : List Ent} (hK : KindsAt w) (he : EntsAt B w (.slice ae es.length ce) es) (hl : es.length ≤ 1000000) :
    Calls Tryd.prog 11 #[.agg (mailCells m (.slice ae es.length ce)), .int .i64 n] w fun e w' => e = .returned (.int .i64 (errno (mayM m es n) 2)) ∧ Below w.heap.size w w' := by
  unfold mailCells
  cases h : mayM m es n with
  | true => exact checkM_yes hK he hl h
  | false => exact checkM_no hK he hl h
set_option maxHeartbeats 2000000 in
theorem encodeM_any {B : Nat} {w : World} (m : MNum) (n : Int) {ae : Option Addr} {ce : Nat} {es : List Ent} (hK : KindsAt w) (he : EntsAt B w (.slice ae es.length ce) es) (hl : es.length ≤ 1000000) (hm : MNumOk m) (hoe : EntsOk es) :
    Calls Tryd.prog 9 #[.agg (mailCells m (.slice ae es.length ce)), .int .i64 n] w fun e w' => e = .returned (.tuple #[.string (str (if mayM m es n then encM m es else [])), .int .i64 (errno (mayM m es n) 2)]) ∧ Below w.heap.size w w' := by
  unfold mailCells
  cases h : mayM m es n with
  | true => rw [if_pos rfl]; exact encodeM_yes hK he hm hoe h
  | false => rw [if_neg (by decide), str_nil]; exact encodeM_no hK he hl h
set_option maxHeartbeats 2000000 in
theorem sameM {B B' : Nat} {w : World} (m : MNum) {ae ae2 : Option Addr} {ce ce2 : Nat} {es : List Ent} (he : EntsAt B w (.slice ae es.length ce) es) (he2 : EntsAt B' w (.slice ae2 es.length ce2) es) (hl : es.length ≤ 1000000) :
    Calls Tryd.prog 13 #[.agg (mailCells m (.slice ae es.length ce)), .agg (mailCells m (.slice ae2 es.length ce2))] w fun e w' => e = .returned (.bool true) ∧ Below w.heap.size w w' := by
  unfold mailCells
  exact sameMail_any m he he2 hl
theorem works_enc {w : World} (hK : KindsAt w) : Calls Tryd.prog 9 #[.agg (mailCells exM (.slice none 0 0)), .int .i64 3] w fun e w' => e = .returned (.tuple #[.string ⟨#[10, 2, 0, 4, 6, 0, 0, 2, 10, 0, 0, 0, 0, 0, 0, 0, 0, 0]⟩, .int .i64 0]) ∧ Below w.heap.size w w' := by
  have := encodeM_any exM 3 hK (ents_none w.heap.size w none 0) (by simp) ex_okM (by simp [EntsOk])
  rw [ex_mayM3, if_pos rfl, ex_encM] at this
  exact this
theorem works_dec {w : World} (hK : KindsAt w) : Calls Tryd.prog 15 #[.string ⟨#[10, 2, 0, 4, 6, 0, 0, 2, 10, 0, 0, 0, 0, 0, 0, 0, 0, 0]⟩, .int .i64 3] w fun e w' => Below w.heap.size w w' ∧ ∃ a c, e = .returned (.tuple #[.agg (mailCells exM (.slice a 0 c)), .int .i64 0]) := by
  refine (decodeM_any (s := ⟨#[10, 2, 0, 4, 6, 0, 0, 2, 10, 0, 0, 0, 0, 0, 0, 0, 0, 0]⟩) (by decide) hK 3).mono ?_
  rintro e w' ⟨hb, _, h⟩
  obtain ⟨a, c, he, _⟩ := h _ ex_decM
  exact ⟨hb, a, c, he⟩
theorem works_same (w : World) (a : Option Addr) (c : Nat) : Calls Tryd.prog 13 #[.agg (mailCells exM (.slice a 0 c)), .agg (mailCells exM (.slice none 0 0))] w fun e w' => e = .returned (.bool true) ∧ Below w.heap.size w w' := by
  have := sameM (es := []) (B := w.heap.size) (B' := w.heap.size) exM (ents_none w.heap.size w a c) (ents_none w.heap.size w none 0) (by simp)
  rw [List.length_nil] at this
  exact this
theorem works_chk2 {w : World} (hK : KindsAt w) : Calls Tryd.prog 11 #[.agg (mailCells exM (.slice none 0 0)), .int .i64 2] w fun e w' => e = .returned (.int .i64 0) ∧ Below w.heap.size w w' := by
  have := checkM_any exM 2 hK (ents_none w.heap.size w none 0) (by simp)
  rw [ex_mayM2] at this
  exact this
theorem works_chk1 {w : World} (hK : KindsAt w) : Calls Tryd.prog 11 #[.agg (mailCells exM (.slice none 0 0)), .int .i64 1] w fun e w' => e = .returned (.int .i64 2) ∧ Below w.heap.size w w' := by
  have := checkM_any exM 1 hK (ents_none w.heap.size w none 0) (by simp)
  rw [ex_mayM1] at this
  exact this
theorem works_chkV {w : World} (hK : KindsAt w) : Calls Tryd.prog 11 #[.agg (mailCells exV (.slice none 0 0)), .int .i64 3] w fun e w' => e = .returned (.int .i64 2) ∧ Below w.heap.size w w' := by
  have := checkM_any exV 3 hK (ents_none w.heap.size w none 0) (by simp)
  rw [ex_mayV3] at this
  exact this

set_option maxRecDepth 100000 in
set_option maxHeartbeats 8000000 in
theorem works_any {w : World} (hK : KindsAt w) : Calls Tryd.prog 14 #[] w fun e w' => e = .returned (.bool true) ∧ Below w.heap.size w w' := by
  obtain ⟨w1, e1, b1, s1, h1⟩ := fresh_msg w (mailCells exM (.slice none 0 0)) 28
  have n1 := World.alloc_heap_new w (.cells #[.int .i64 0, .int .i64 0, .int .i64 0, .int .i64 0, .int .i64 0, .int .i64 0, .int .i64 0, .int .i64 0, .int .i64 0, .slice none 0 0, .int .i64 0, .int .i64 0, .int .i64 0, .int .i64 0, .int .i64 0, .int .i64 0, .int .i64 0, .int .i64 0] 28)
  have E1 := Lib.hid e1
  have H1 := Lib.hid h1
  have hr1 := msg_range h1
  have HK := Lib.hid hK
  have hp := hK.pos
  have X1 := Lib.hid (works_enc (hK.below b1 hK.pos))
  clear e1 h1 hK
  go_enter Tryd.func14, Tryd.ntmps14
  go_wp2_with (first | (refine wpList_load_mid rfl _ _ rfl _ _ rfl _ _ hr1 Tryd.underlying28 rfl (by kernel_rfl) ?_) | (refine wpList_store_row rfl _ _ (.tmp 7) rfl w.heap.size (mailCells exM (.slice none 0 0)) rfl rfl _ _ n1 (by kernel_rfl) rfl (msg_one _ _ _ _) ?_; rw [E1.out]))
  refine X1.out.mono ?_
  rintro e w2 ⟨rfl, b2⟩
  clear hr1 n1
  have B2 := b1.trans (b2.mono b1.size)
  have H2 := Lib.hid ((b2.block w.heap.size (by omega)).trans H1.out)
  have s2 := b2.size
  have X2 := Lib.hid (works_dec (HK.out.below B2 hp))
  go_wp2_with fail
  refine X2.out.mono ?_
  rintro e w3 ⟨b3, a3, c3, rfl⟩
  have B3 := B2.trans (b3.mono B2.size)
  have H3 := Lib.hid ((b3.block w.heap.size (by omega)).trans H2.out)
  have s3 := b3.size
  obtain ⟨w4, e4, b4, s4, h4⟩ := fresh_msg w3 (mailCells exM (.slice a3 0 c3)) 28
  have n3 := World.alloc_heap_new w3 (.cells #[.int .i64 0, .int .i64 0, .int .i64 0, .int .i64 0, .int .i64 0, .int .i64 0, .int .i64 0, .int .i64 0, .int .i64 0, .slice none 0 0, .int .i64 0, .int .i64 0, .int .i64 0, .int .i64 0, .int .i64 0, .int .i64 0, .int .i64 0, .int .i64 0] 28)
  have E4 := Lib.hid e4
  have H4 := Lib.hid h4
  have G4 := Lib.hid ((b4.block w.heap.size (by omega)).trans H3.out)
  obtain ⟨w5, e5, b5, s5, h5⟩ := fresh_msg w4 (mailCells exM (.slice none 0 0)) 28
  have n4 := World.alloc_heap_new w4 (.cells #[.int .i64 0, .int .i64 0, .int .i64 0, .int .i64 0, .int .i64 0, .int .i64 0, .int .i64 0, .int .i64 0, .int .i64 0, .slice none 0 0, .int .i64 0, .int .i64 0, .int .i64 0, .int .i64 0, .int .i64 0, .int .i64 0, .int .i64 0, .int .i64 0] 28)
  have E5 := Lib.hid e5
  have H5 := Lib.hid h5
  have hr4 := msg_range G4.out
  have f5 := thawed h5 5
  have x5 : w5.cell? ⟨w4.heap.size, 5, none⟩ = some (.int .i64 0) := by simp [World.cell?, h5, mailCells, exM]
  have S4 := Lib.hid s4
  clear e4 h4 e5 h5 s4
  go_upto_region 4 with (refine wpList_store_row rfl _ _ (.tmp 16) rfl w3.heap.size (mailCells exM (.slice a3 0 c3)) rfl rfl _ _ n3 (by kernel_rfl) rfl (msg_one _ _ _ _) ?_; rw [E4.out])
  clear n3
  go_upto_region 5 with (first | (refine wpList_load_mid rfl _ _ rfl _ _ rfl _ _ hr4 Tryd.underlying28 rfl (by kernel_rfl) ?_) | (refine wpList_store_row rfl _ _ (.tmp 18) rfl w4.heap.size (mailCells exM (.slice none 0 0)) rfl rfl _ _ n4 (by kernel_rfl) rfl (msg_one _ _ _ _) ?_; rw [E5.out]))
  clear n4 hr4
  go_upto_region 6 with fail
  have s4 := S4.out
  obtain ⟨w6, e6⟩ : ∃ w6, w5.setCell ⟨w4.heap.size, 5, none⟩ (.int .i64 1) = w6 := ⟨_, rfl⟩
  obtain ⟨t6, k6, hW6⟩ := rd_setTo (R := w4.heap.size) (o := 5) (v := .int .i64 1) H5.out (Wrote.refl _ _ w5)
  rw [e6] at t6 k6 hW6
  rw [exM_set5] at t6
  have s6 := hW6.below.size
  have B6 := Lib.hid (B3.trans ((b4.mono (by omega)).trans ((b5.mono (by omega)).trans (hW6.toBelow (B := w.heap.size) (by omega) (by omega) (by omega)))))
  have T6 := Lib.hid t6
  have M6 := Lib.hid ((k6 w3.heap.size (by omega)).trans ((b5.block w3.heap.size (by omega)).trans H4.out))
  have L6 := Lib.hid ((k6 w.heap.size (by omega)).trans ((b5.block w.heap.size (by omega)).trans G4.out))
  have E6 := Lib.hid e6
  rw [E6.out]
  have r1 := msg_range M6.out
  have r2 := msg_range L6.out
  have X6 := Lib.hid (works_same w6 a3 c3)
  clear e6 t6 k6 hW6 f5 x5 E1 E4 E5 E6 H1 H2 H3 H4 H5 G4
  go_wp2_with (first | (refine load_midG (by rfl) _ _ rfl _ _ rfl _ _ r1 Tryd.underlying28 rfl (by kernel_rfl) ?_) | (refine load_midG (by rfl) _ _ rfl _ _ rfl _ _ r2 Tryd.underlying28 rfl (by kernel_rfl) ?_))
  refine X6.out.mono ?_
  rintro e w7 ⟨rfl, b7⟩
  clear r1 r2
  have s7 := b7.size
  have r1 := msg_range ((b7.block w.heap.size (by omega)).trans L6.out)
  have X7 := Lib.hid (works_chk2 (HK.out.below (B6.out.trans (b7.mono B6.out.size)) hp))
  go_wp2_with (refine load_midG (by rfl) _ _ rfl _ _ rfl _ _ r1 Tryd.underlying28 rfl (by kernel_rfl) ?_)
  refine X7.out.mono ?_
  rintro e w8 ⟨rfl, b8⟩
  clear r1
  have s8 := b8.size
  have b68 := b7.trans (b8.mono s7)
  have r1 := msg_range ((b68.block w.heap.size (by omega)).trans L6.out)
  have X8 := Lib.hid (works_chk1 (HK.out.below (B6.out.trans (b68.mono B6.out.size)) hp))
  go_wp2_with (refine load_midG (by rfl) _ _ rfl _ _ rfl _ _ r1 Tryd.underlying28 rfl (by kernel_rfl) ?_)
  refine X8.out.mono ?_
  rintro e w9 ⟨rfl, b9⟩
  clear r1
  have s9 := b9.size
  have b69 := b68.trans (b9.mono (by omega))
  have r1 := msg_range ((b69.block w4.heap.size (by omega)).trans T6.out)
  rw [s4] at r1
  have X9 := Lib.hid (works_chkV (HK.out.below (B6.out.trans (b69.mono B6.out.size)) hp))
  go_wp2_with (refine load_midG (by rfl) _ _ rfl _ _ rfl _ _ r1 Tryd.underlying28 rfl (by kernel_rfl) ?_)
  refine X9.out.mono ?_
  rintro e w10 ⟨rfl, b10⟩
  clear r1
  go_wp2
  go_ret
  exact ⟨rfl, B6.out.trans ((b69.trans (b10.mono (by omega))).mono B6.out.size)⟩
end Go.Proofs.YtnekpehgaojkaaaDoor
