/- Same, of records that hold the same. -/
import Derived.Test.YtnekpehgaojkaaaDoorC11w
namespace Go.Proofs.YtnekpehgaojkaaaDoor
open Go.RowKit

set_option maxRecDepth 100000 in
set_option maxHeartbeats 4000000 in
theorem sameEnts_any {B B' : Nat} {w : World} {va vb : Value} {es : List Ent} (ha : EntsAt B w va es) (hb : EntsAt B' w vb es) (hl : es.length ≤ 1000000) :
    Calls Tryd.prog 27 #[va, vb] w fun e w' => e = .returned (.bool true) ∧ Below w.heap.size w w' := by
  have HA := Lib.hid ha
  have HB := Lib.hid hb
  obtain ⟨aa, ca, rfl, _⟩ := ha
  obtain ⟨ab, cb, rfl, _⟩ := hb
  go_enter Tryd.func27, Tryd.ntmps27
  go_wp2_with fail
  go_loopw [5] (fun p wr => ∃ k : Nat, k ≤ es.length ∧ p = .int .i64 k ∧ Below w.heap.size w wr) (fun p _ => es.length - (intOf p).toNat)
  case atStart => exact ⟨0, by omega, rfl, Below.refl _ _⟩
  case round =>
    obtain ⟨k, hk, rfl, hB⟩ := hrel
    by_cases hlt : k < es.length
    · obtain ⟨a1, c1, hva, hca⟩ := HA.out.below hB
      cases hva
      obtain ⟨b1, o1, rfl, hbl, _, hcell⟩ := hca (fun h => by rw [h] at hlt; simp at hlt)
      obtain ⟨x0, x1, x2, x3, x4, x5⟩ := hcell k hlt
      obtain ⟨a2, c2, hva2, hca2⟩ := HB.out.below hB
      cases hva2
      obtain ⟨b2, o2, rfl, hbl2, _, hcell2⟩ := hca2 (fun h => by rw [h] at hlt; simp at hlt)
      obtain ⟨y0, y1, y2, y3, y4, y5⟩ := hcell2 k hlt
      clear hcell hca hcell2 hca2
      generalize es[k] = x at *
      go_wp2_with fail
      go_quiet (fail)
      go_wp2
      go_roundw
      case rel => exact ⟨k + 1, by omega, by go_num, below_drewN hB _⟩
      case measure => simp [intOf]; omega
    · obtain rfl : k = es.length := by omega
      go_wp2
      go_ret
      exact ⟨rfl, hB⟩

end Go.Proofs.YtnekpehgaojkaaaDoor
