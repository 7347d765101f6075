/- works of layer 3. -/
import Derived.Test.YtcgiceebcombeaaC3f
import Derived.OwnWalk
namespace Go.Proofs.Ytcgiceebcombeaa
open Go.RowKit

theorem ex_frame : frameL [97] = [2, 93, 87, 137, 69, 97] := by decide +kernel
theorem ex_no : nextL [2, 93, 87, 137, 69, 97] 1 = none := by decide +kernel
theorem ex_end : nextL [2, 93, 87, 137, 69, 97, 2, 93, 87, 137, 69, 97, 2, 93, 87] 12 = none := by decide +kernel
theorem ex_next : nextL [2, 93, 87, 137, 69, 97] 0 = some ([97], 6) := by
  have := next_frame [] [] [97] (by decide)
  rw [ex_frame] at this
  exact this
theorem ex_whole : WholeL [2, 93, 87, 137, 69, 97, 2, 93, 87, 137, 69, 97, 2, 93, 87] [[97], [97]] 12 := by
  refine ⟨⟨6, ?_, 12, ?_, rfl⟩, ex_end⟩
  · have := next_frame [] [2, 93, 87, 137, 69, 97, 2, 93, 87] [97] (by decide)
    rw [ex_frame] at this
    exact this
  · have := next_frame [2, 93, 87, 137, 69, 97] [2, 93, 87] [97] (by decide)
    rw [ex_frame] at this
    exact this
theorem made_bytes (n : Nat) : (madeCells #[.int .u8 0] n).toList = (List.replicate n (0 : UInt8)).map bv := by
  apply List.ext_getElem?
  intro j
  by_cases hj : j < n
  · simp [bv, madeCells, Nat.mod_one, hj]
  · simp [madeCells, hj]
theorem two_strs (w : World) (s t : ByteArray) : StrsAt (w.alloc (.cells #[.string s, .string t] 9)) (.slice (some ⟨w.heap.size, 0, none⟩) 2 2) [s, t] := by
  refine ⟨some ⟨w.heap.size, 0, none⟩, 2, rfl, fun _ => ⟨w.heap.size, 0, rfl, by simp, fun j hj => ?_⟩⟩
  have hh := World.alloc_heap_new w (.cells #[.string s, .string t] 9)
  generalize w.alloc (.cells #[.string s, .string t] 9) = w1 at *
  have hj' : j < 2 := hj
  match j, hj' with
  | 0, _ => simp [World.cell?, hh]
  | 1, _ => simp [World.cell?, hh]

set_option maxRecDepth 100000 in
set_option maxHeartbeats 4000000 in
theorem works_any (w : World) : Calls Try.prog 12 #[] w fun e w' => e = .returned (.bool true) ∧ Below w.heap.size w w' := by
  obtain ⟨i0, hi, hz0, hz1, hz2⟩ := info_parts info_u8
  have HF := Lib.hid (frame_yes ⟨#[97]⟩ (by decide))
  rw [show frameL (⟨#[97]⟩ : ByteArray).data.toList = [2, 93, 87, 137, 69, 97] from ex_frame] at HF
  obtain ⟨f, hf⟩ : ∃ f, str [2, 93, 87, 137, 69, 97] = f := ⟨_, rfl⟩
  have f0 : f.size = 6 := by rw [← hf]; rfl
  have hsz : f.size ≤ 6 := by omega
  have hsz2 : 6 ≤ f.size := by omega
  have HN := Lib.hid (next_yes (s := f) (by omega) (a := 0) (p := [97]) (m := 6) (by rw [← hf]; exact ex_next))
  have HN1 := Lib.hid (next_no (s := f) (by omega) (a := 1) (by rw [← hf]; exact ex_no))
  have HW := Lib.hid (whole_any (f ++ f ++ f.extract 0 3) (by rw [ByteArray.size_append, ByteArray.size_append, ByteArray.size_extract]; omega))
  have HWL : Hid (WholeL (f ++ f ++ f.extract 0 3).data.toList [[97], [97]] 12) := by rw [← hf]; exact ex_whole
  have g0 : (((f[0]'(Nat.lt_of_lt_of_le (by decide) hsz2)).toNat : Int) == 2) = true := by subst hf; rfl
  have g5 : (((f[5]'(Nat.lt_of_lt_of_le (by decide) hsz2)).toNat : Int) == 97) = true := by subst hf; rfl
  have d6 : ((f.size : Int) != 6) = false := by rw [f0]; rfl
  rw [hf] at HF
  rw [show str [97] = ⟨#[97]⟩ from rfl] at HN
  clear hf f0
  go_enter Try.func12, Try.ntmps12
  go_wp2_with fail
  refine (HF.out _).mono ?_
  rintro e w1 ⟨rfl, b1⟩
  go_wp2_with fail
  refine (HN.out _).mono ?_
  rintro e w2 ⟨rfl, b2⟩
  have B2 := b1.trans (b2.mono b1.size)
  go_wp2_with fail
  refine (HN1.out _).mono ?_
  rintro e w3 ⟨rfl, b3⟩
  have B3 := B2.trans (b3.mono B2.size)
  go_wp2_with fail
  refine (HW.out _).mono ?_
  rintro e w4 ⟨ps, n, v, rfl, hW, hO, b4⟩
  obtain ⟨rfl, rfl⟩ := whole_unique hW HWL.out
  have B4 := B3.trans (b4.mono B3.size)
  have HO := Lib.hid (own_strs hO)
  clear hW hO
  go_wp2_with (at_make; refine wpList_make_full _ rfl _ _ 39 rfl w4.heap.size 5 i0 (.int .u8 0) 1 Try.underlying39 hi hz0 hz1 _ _ _ _ 8193 rfl rfl rfl rfl (by rw [hz2]; decide) (by decide) (Nat.le_refl _) ?_)
  intro w5 hown hgr
  have b5 : Below w4.heap.size w4 w5 := (Below.refl _ _).grown hgr (Nat.le_refl _) (fun k h => by cases h)
  have B5 := B4.trans (b5.mono B4.size)
  have hcv := run_string_owned (l := List.replicate 8193 0) (w := w5) (B := w4.heap.size) (v := .slice (some ⟨w4.heap.size, 0, none⟩) 8193 8193) (by rw [List.length_replicate, ← made_bytes]; exact hown) (by simp)
  have HB := Lib.hid (frame_no (str (List.replicate 8193 0)) (by rw [str_size, List.length_replicate]; decide))
  have HO5 := Lib.hid (HO.out.below b5)
  clear hown hgr
  generalize str (List.replicate 8193 0) = big at *
  go_wp2_with fail
  refine (HB.out _).mono ?_
  rintro e w6 ⟨rfl, rfl⟩
  clear hcv
  obtain ⟨w6, e6, b6, h6⟩ : ∃ w6, w5.alloc (.cells #[.string ⟨#[97]⟩, .string ⟨#[97]⟩] 9) = w6 ∧ Below w5.heap.size w5 w6 ∧ StrsAt w6 (.slice (some ⟨w5.heap.size, 0, none⟩) 2 2) [⟨#[97]⟩, ⟨#[97]⟩] := ⟨_, rfl, (Below.refl _ _).alloc (Nat.le_refl _) _, two_strs _ _ _⟩
  have E6 := Lib.hid e6
  have HS := Lib.hid (same_any (by decide) (HO5.out.below b6) h6)
  clear e6 h6
  go_wp2_with fail
  rw [E6.out]
  refine HS.out.mono ?_
  rintro e w7 ⟨rfl, q, rfl⟩
  go_wp2
  go_ret
  exact ⟨rfl, below_drewN (B5.trans (b6.mono B5.size)) q⟩
end Go.Proofs.Ytcgiceebcombeaa
