/- works of layer 10. -/
import Derived.Test.YtalilifegclelaaC10p
namespace Go.Proofs.Ytalilifegclelaa
open Go.RowKit

theorem ents_nil (B : Nat) (w : World) : EntsAt B w (.slice none ([] : List Ent).length 0) [] := ⟨none, 0, rfl, fun h => absurd rfl h⟩
theorem spts_nil (B : Nat) (w : World) : SptsAt B w (.slice none ([] : List Spt).length 0) [] := ⟨none, 0, rfl, fun h => absurd rfl h⟩
theorem rec_one (n : RNum) (a b : Option Addr) (m k c d : Nat) : (recCells n (.slice a m c) (.slice b k d)).all (·.oneCell') = true := by simp [recCells, Value.oneCell']
/-- A record in a box of its own, stored there. -/
theorem fresh_rec (w : World) (cs : Array Value) (t : TypeId) : ∃ w', (w.alloc (.cells #[.int .i64 0, .int .i64 0, .int .i64 0, .int .i64 0, .int .i64 0, .int .i64 0, .slice none 0 0, .slice none 0 0] t)).setRow w.heap.size cs = w' ∧
    Below w.heap.size w w' ∧ w'.heap.size = w.heap.size + 1 ∧ w'.heap[w.heap.size]? = some (.cells cs t (0, 0)) :=
  ⟨_, rfl, below_setRow ((Below.refl _ _).alloc (Nat.le_refl _) _) (Nat.le_refl _) _, by simp, setRow_heap _ _ _ _ _ _ (World.alloc_heap_new w _)⟩

theorem ex_enc1 : encR ⟨1, 2, 3, 0, 0, 0⟩ [] [] = [2, 4, 6, 0, 0, 0, 0, 0] := by decide +kernel
theorem ex_may1 : mayR ⟨1, 2, 3, 0, 0, 0⟩ [] [] = true := by decide +kernel
theorem ex_enc2 : encR ⟨5, 0, 0, 0, 0, 0⟩ [] [⟨1, 7⟩, ⟨0, 0⟩] = [10, 0, 0, 0, 0, 0, 0, 4, 2, 14, 0, 0] := by decide +kernel
theorem ex_may2 : mayR ⟨5, 0, 0, 0, 0, 0⟩ [] [⟨1, 7⟩, ⟨0, 0⟩] = true := by decide +kernel
set_option maxRecDepth 100000 in
theorem ex_decR : decR [10, 0, 0, 0, 0, 0, 0, 4, 2, 14, 0, 0] = some (⟨5, 0, 0, 0, 0, 0⟩, [], [⟨1, 7⟩, ⟨0, 0⟩]) := by kernel_rfl
theorem ex_may3 : mayR ⟨3, 0, 0, 0, 0, 65⟩ [] [] = false := by decide +kernel
theorem ok_num (n : RNum) (h : n.nums.all (fun x => decide (-9223372036854775808 ≤ x) && decide (x ≤ 9223372036854775807)) = true) : RNumOk n := fun x hx => by
  have := List.all_eq_true.1 h x hx
  simpa using this
theorem works_enc1 (w : World) : Calls Try.prog 10 #[.agg #[.int .i64 1, .int .i64 2, .int .i64 3, .int .i64 0, .int .i64 0, .int .i64 0, .slice none 0 0, .slice none 0 0]] w fun e w' => e = .returned (.tuple #[.string ⟨#[2, 4, 6, 0, 0, 0, 0, 0]⟩, .int .i64 0]) ∧ Below w.heap.size w w' := by
  have := encodeR_yes (n := ⟨1, 2, 3, 0, 0, 0⟩) (ents_nil w.heap.size w) (spts_nil w.heap.size w) (ok_num _ (by decide)) (by simp [EntsOk]) (by simp [SptsOk]) ex_may1
  rw [ex_enc1] at this
  exact this
theorem works_enc2 {w : World} {a : Option Addr} {c : Nat} (h : SptsAt w.heap.size w (.slice a 2 c) [⟨1, 7⟩, ⟨0, 0⟩]) : Calls Try.prog 10 #[.agg #[.int .i64 5, .int .i64 0, .int .i64 0, .int .i64 0, .int .i64 0, .int .i64 0, .slice none 0 0, .slice a 2 c]] w fun e w' => e = .returned (.tuple #[.string ⟨#[10, 0, 0, 0, 0, 0, 0, 4, 2, 14, 0, 0]⟩, .int .i64 0]) ∧ Below w.heap.size w w' := by
  have := encodeR_yes (n := ⟨5, 0, 0, 0, 0, 0⟩) (ents_nil w.heap.size w) (fs := [⟨1, 7⟩, ⟨0, 0⟩]) h (ok_num _ (by decide)) (by simp [EntsOk]) (by simp [SptsOk, SptOk, Spt.nums]) ex_may2
  rw [ex_enc2] at this
  exact this
theorem works_check (w : World) : Calls Try.prog 12 #[.agg #[.int .i64 3, .int .i64 0, .int .i64 0, .int .i64 0, .int .i64 0, .int .i64 65, .slice none 0 0, .slice none 0 0]] w fun e w' => e = .returned (.int .i64 2) ∧ Below w.heap.size w w' := by
  have := checkR_no (n := ⟨3, 0, 0, 0, 0, 65⟩) (ents_nil w.heap.size w) (spts_nil w.heap.size w) (by simp) (by simp) ex_may3
  exact this
theorem works_dec (w : World) : Calls Try.prog 16 #[.string ⟨#[10, 0, 0, 0, 0, 0, 0, 4, 2, 14, 0, 0]⟩] w fun e w' => Below w.heap.size w w' ∧ ∃ a7 c7 a9 c9, e = .returned (.tuple #[.agg #[.int .i64 5, .int .i64 0, .int .i64 0, .int .i64 0, .int .i64 0, .int .i64 0, .slice a7 0 c7, .slice a9 2 c9], .int .i64 0]) ∧
    SptsAt w'.heap.size w' (.slice a9 2 c9) [⟨1, 7⟩, ⟨0, 0⟩] := by
  refine (decodeR_any (s := ⟨#[10, 0, 0, 0, 0, 0, 0, 4, 2, 14, 0, 0]⟩) (by decide) w).mono ?_
  rintro e w' ⟨hb, _, h⟩
  obtain ⟨a7, c7, a9, c9, he, _, ho⟩ := h _ ex_decR
  refine ⟨hb, a7, c7, a9, c9, he, ?_⟩
  exact spts_owned (B' := w'.heap.size) ho

set_option maxRecDepth 100000 in
set_option maxHeartbeats 4000000 in
theorem works_any (w : World) : Calls Try.prog 15 #[] w fun e w' => e = .returned (.bool true) ∧ Below w.heap.size w w' := by
  have HE1 := Lib.hid works_enc1
  have HD := Lib.hid works_dec
  have HC := Lib.hid works_check
  go_enter Try.func15, Try.ntmps15
  go_wp2_with fail
  refine (HE1.out _).mono ?_
  rintro e w1 ⟨rfl, b1⟩
  obtain ⟨w2, e2, b2, s2, h2⟩ := boxed w1 #[.int .i64 1, .int .i64 7, .int .i64 0, .int .i64 0] 32
  have hs2 : SptsAt w2.heap.size w2 (.slice (some ⟨w1.heap.size, 0, none⟩) 2 2) [⟨1, 7⟩, ⟨0, 0⟩] := by
    refine ⟨_, 2, rfl, fun _ => ⟨w1.heap.size, 0, rfl, by omega, .inl (by omega), fun j hj => ?_⟩⟩
    rcases j with _ | _ | j
    · exact ⟨by simp [World.cell?, h2], by simp [World.cell?, h2]⟩
    · exact ⟨by simp [World.cell?, h2], by simp [World.cell?, h2]⟩
    · simp at hj; omega
  have HE2 := Lib.hid (works_enc2 hs2)
  have E2 := Lib.hid e2
  clear e2 h2 hs2
  go_wp2_with fail
  rw [E2.out]
  refine HE2.out.mono ?_
  rintro e w3 ⟨rfl, b3⟩
  go_wp2_with fail
  refine (HD.out _).mono ?_
  rintro e w4 ⟨b4, a7, c7, a9, c9, rfl, hs4⟩
  have b5 : Below w4.heap.size w4 (w4.alloc (.cells #[.int .i64 5, .int .i64 0, .int .i64 0, .int .i64 0, .int .i64 0, .int .i64 0, .slice a7 0 c7, .slice a9 2 c9] 25)) := (Below.refl _ _).alloc (Nat.le_refl _) _
  obtain ⟨a, c, hv, hs5⟩ := hs4.below b5
  cases hv
  obtain ⟨b, off, rfl, hb, _, hcell⟩ := hs5 (by simp)
  obtain ⟨y0, y1⟩ := hcell 0 (by decide)
  simp only [Nat.zero_mul, Nat.add_zero, List.getElem_cons_zero] at y0 y1
  have B4 := b1.trans ((b2.mono b1.size).trans ((b3.mono (by have := b1.size; have := b2.size; omega)).trans (b4.mono (by have := b1.size; have := b2.size; have := b3.size; omega))))
  have B5 := Lib.hid (B4.trans (b5.mono B4.size))
  clear hcell hs5 hs4 B4 b5
  go_wp2_with fail
  refine (HC.out _).mono ?_
  rintro e w6 ⟨rfl, b6⟩
  go_wp2
  go_ret
  exact ⟨rfl, B5.out.trans (b6.mono B5.out.size)⟩
end Go.Proofs.Ytalilifegclelaa
