/- Same, of records that hold the same. -/
import Derived.Test.YtalilifegclelaaC10x
namespace Go.Proofs.Ytalilifegclelaa
open Go.RowKit

set_option maxRecDepth 100000 in
set_option maxHeartbeats 4000000 in
theorem sameEnts_any {B B' : Nat} {w : World} {va vb : Value} {es : List Ent} (ha : EntsAt B w va es) (hb : EntsAt B' w vb es) (hl : es.length ≤ 1000000) :
    Calls Try.prog 29 #[va, vb] w fun e w' => e = .returned (.bool true) ∧ Below w.heap.size w w' := by
  have HA := Lib.hid ha
  have HB := Lib.hid hb
  obtain ⟨aa, ca, rfl, _⟩ := ha
  obtain ⟨ab, cb, rfl, _⟩ := hb
  go_enter Try.func29, Try.ntmps29
  go_wp2_with fail
  go_loopw [5] (fun p wr => ∃ k : Nat, k ≤ es.length ∧ p = .int .i64 k ∧ Below w.heap.size w wr) (fun p _ => es.length - (intOf p).toNat)
  case atStart => exact ⟨0, by omega, rfl, Below.refl _ _⟩
  case round =>
    obtain ⟨k, hk, rfl, hB⟩ := hrel
    by_cases hlt : k < es.length
    · obtain ⟨a1, c1, hva, hca⟩ := HA.out.below hB
      cases hva
      obtain ⟨b1, o1, rfl, hbl, _, hcell⟩ := hca (fun h => by rw [h] at hlt; simp at hlt)
      obtain ⟨x0, x1, x2, x3, x4, x5⟩ := hcell k hlt
      obtain ⟨a2, c2, hva2, hca2⟩ := HB.out.below hB
      cases hva2
      obtain ⟨b2, o2, rfl, hbl2, _, hcell2⟩ := hca2 (fun h => by rw [h] at hlt; simp at hlt)
      obtain ⟨y0, y1, y2, y3, y4, y5⟩ := hcell2 k hlt
      clear hcell hca hcell2 hca2
      generalize es[k] = x at *
      go_wp2_with fail
      go_quiet (fail)
      go_wp2
      go_roundw
      case rel => exact ⟨k + 1, by omega, by go_num, below_drewN hB _⟩
      case measure => simp [intOf]; omega
    · obtain rfl : k = es.length := by omega
      go_wp2
      go_ret
      exact ⟨rfl, hB⟩

set_option maxRecDepth 100000 in
set_option maxHeartbeats 4000000 in
theorem same_any {B B' B2 B2' : Nat} {w : World} (n : RNum) {ae af ae2 af2 : Option Addr} {ce cf ce2 cf2 : Nat} {es : List Ent} {fs : List Spt} (he : EntsAt B w (.slice ae es.length ce) es) (hf : SptsAt B' w (.slice af fs.length cf) fs)
    (he2 : EntsAt B2 w (.slice ae2 es.length ce2) es) (hf2 : SptsAt B2' w (.slice af2 fs.length cf2) fs) (hl : es.length ≤ 1000000) (hlf : fs.length ≤ 1000000) :
    Calls Try.prog 14 #[.agg #[.int .i64 n.kind, .int .i64 n.stream, .int .i64 n.epoch, .int .i64 n.view, .int .i64 n.frm, .int .i64 n.length, .slice ae es.length ce, .slice af fs.length cf], .agg #[.int .i64 n.kind, .int .i64 n.stream, .int .i64 n.epoch, .int .i64 n.view, .int .i64 n.frm, .int .i64 n.length, .slice ae2 es.length ce2, .slice af2 fs.length cf2]] w fun e w' => e = .returned (.bool true) ∧ Below w.heap.size w w' := by
  obtain ⟨w1, e1, b1, s1, g1⟩ := boxed w (recCells n (.slice ae es.length ce) (.slice af fs.length cf)) 25
  obtain ⟨w2, e2, b2, s2, g2⟩ := boxed w1 (recCells n (.slice ae2 es.length ce2) (.slice af2 fs.length cf2)) 25
  have E2 := Lib.hid (show (w.alloc (.cells #[.int .i64 n.kind, .int .i64 n.stream, .int .i64 n.epoch, .int .i64 n.view, .int .i64 n.frm, .int .i64 n.length, .slice ae es.length ce, .slice af fs.length cf] 25)).alloc (.cells #[.int .i64 n.kind, .int .i64 n.stream, .int .i64 n.epoch, .int .i64 n.view, .int .i64 n.frm, .int .i64 n.length, .slice ae2 es.length ce2, .slice af2 fs.length cf2] 25) = w2 by rw [← e2, ← e1]; rfl)
  rw [s1] at g2
  have b12 := b1.trans (b2.mono b1.size)
  have R1 := Lib.hid (show recAt w2 w.heap.size n (.slice ae es.length ce) (.slice af fs.length cf) from rec_cells ((b2.block _ (by omega)).trans g1))
  have R2 := Lib.hid (show recAt w2 (w.heap.size + 1) n (.slice ae2 es.length ce2) (.slice af2 fs.length cf2) from rec_cells g2)
  have HX := Lib.hid (sameEnts_any (he.below b12) (he2.below b12) hl)
  have HF := Lib.hid (hf.below b12)
  have HF2 := Lib.hid (hf2.below b12)
  clear e1 e2 g1 g2 he hf he2 hf2
  obtain ⟨c0, c1, c2, c3, c4, c5, c6, c7⟩ := R1.out
  obtain ⟨d0, d1, d2, d3, d4, d5, d6, d7⟩ := R2.out
  go_enter Try.func14, Try.ntmps14
  go_upto_region 1 with fail
  rw [E2.out]
  go_wp2_with fail
  refine HX.out.mono ?_
  rintro e w3 ⟨rfl, b3⟩
  have s3 := b3.size
  clear c0 c1 c2 c3 c4 c5 c6 c7 d0 d1 d2 d3 d4 d5 d6 d7
  obtain ⟨c0, c1, c2, c3, c4, c5, c6, c7⟩ := R1.out.below (by omega) b3
  obtain ⟨d0, d1, d2, d3, d4, d5, d6, d7⟩ := R2.out.below (by omega) b3
  go_wp2_with fail
  clear c0 c1 c2 c3 c4 c5 c6 c7 d0 d1 d2 d3 d4 d5 d6 d7
  go_loopw [5] (fun p wr => ∃ k : Nat, k ≤ fs.length ∧ p = .int .i64 k ∧ Below w2.heap.size w2 wr) (fun p _ => fs.length - (intOf p).toNat)
  case atStart => exact ⟨0, by omega, rfl, b3⟩
  case round =>
    obtain ⟨k, hk, rfl, hB⟩ := hrel
    obtain ⟨c0, c1, c2, c3, c4, c5, c6, c7⟩ := R1.out.below (by omega) hB
    obtain ⟨d0, d1, d2, d3, d4, d5, d6, d7⟩ := R2.out.below (by omega) hB
    clear c0 c1 c2 c3 c4 c5 c6 d0 d1 d2 d3 d4 d5 d6
    by_cases hlt : k < fs.length
    · obtain ⟨a1, c1, hva, hca⟩ := HF.out.below hB
      cases hva
      obtain ⟨bb1, o1, rfl, hbl, _, hcell⟩ := hca (fun h => by rw [h] at hlt; simp at hlt)
      obtain ⟨x0, x1⟩ := hcell k hlt
      obtain ⟨a2, c2, hva2, hca2⟩ := HF2.out.below hB
      cases hva2
      obtain ⟨bb2, o2, rfl, hbl2, _, hcell2⟩ := hca2 (fun h => by rw [h] at hlt; simp at hlt)
      obtain ⟨y0, y1⟩ := hcell2 k hlt
      clear hcell hca hcell2 hca2
      generalize fs[k] = x at *
      go_wp2_with fail
      go_quiet (fail)
      go_wp2
      go_roundw
      case rel => exact ⟨k + 1, by omega, by go_num, below_drewN hB _⟩
      case measure => simp [intOf]; omega
    · obtain rfl : k = fs.length := by omega
      go_wp2
      go_ret
      exact ⟨rfl, b12.trans (hB.mono (by omega))⟩
end Go.Proofs.Ytalilifegclelaa
