/- Arguments opened: a slice of strings, as the texts that it holds. -/
import Derived.Test.YtcgiceebcombeaaOpen
import Derived.Test.YtcgiceebcombeaaC3f
import Derived.SliceStrings
namespace Go.Proofs.Ytcgiceebcombeaa
open Go.ChangeShapes Go.WideShapes Go.ChangeAt Go.RowKit

theorem open_strsAt {H : Type} {enc : TypeId × Value → H} {P : Program} {w : World} {r : Reach} {base : Nat} {t e : TypeId} {v : Value} {d : DataW H} {ps : List MemPlace}
    (ht : P.underlying t = some (.slice e)) (he : P.underlying e = some .string) (hc : P.cellsOf e = 1) (hval : Value.okWide P w r base t v) (h : DataW.Trod enc P w 0 (fun _ => true) true t v d ps) :
    ∃ l : List ByteArray, StrsIn w v l ∧ (∀ s ∈ l, s.size ≤ maxLen) ∧ True := by
  obtain ⟨a0, len, cap, rfl⟩ := okWide_slice ht hval
  obtain ⟨fuel, hf⟩ := h
  rcases open_strings ht he hc hf with ⟨hcs, hx⟩ | ⟨a, len', cap', zs, hcs, _, hl, hm, hz, hx, hcell, hwz⟩
  · simp only [Value.cells, List.cons.injEq, and_true] at hcs
    cases hcs
    exact ⟨[], ⟨⟨none, 0, rfl, fun h => absurd rfl h⟩, fun a n c h => by cases h; exact ⟨Nat.le_refl _, fun _ => rfl⟩⟩, by simp, trivial⟩
  · simp only [Value.cells, List.cons.injEq, and_true] at hcs
    cases hcs
    simp only [if_true] at hz
    have hlz : (zs.take len).length = len := by rw [List.length_take]; omega
    refine ⟨zs.take len, ⟨⟨some a, cap, by rw [hlz], fun hne => ?_⟩, fun a n c h => by cases h; exact ⟨hl, fun h => by cases h⟩⟩, fun n hn => hwz n (List.mem_of_mem_take hn), trivial⟩
    have hpos : 0 < zs.length := by
      rcases Nat.eq_zero_or_pos len with h0 | h0
      · subst h0; simp at hne
      · omega
    obtain ⟨b, off, spot⟩ := a
    have hspot : spot = none := by simpa [Addr.add] using World.cell?_spot (hcell 0 hpos)
    subst hspot
    have hcell' : ∀ j, j < zs.length → w.cell? ⟨b, off + j, none⟩ = some (.string (zs.getD j ByteArray.empty)) := fun j hj => by rw [← Go.WideShapes.add_plain]; exact hcell j hj
    refine ⟨b, off, rfl, block_of_cell (hcell' 0 hpos), fun j hj => ?_⟩
    have hj' : j < zs.length := by rw [hlz] at hj; omega
    rw [hcell' j hj', List.getElem_take]
    congr 2
    simp [List.getD, hj']
end Go.Proofs.Ytcgiceebcombeaa
