/- Arguments opened: a slice of ints, as the ints that it holds. No program. -/
import Derived.Test.YtnekpehgaojkaaaDoorAid
import Derived.ProofKit
import Derived.OpenShut
import Derived.SizedLaws
namespace Go.Proofs.YtnekpehgaojkaaaDoor
open Go.ChangeShapes Go.WideShapes Go.ChangeAt Go.RowKit

theorem block_of_cell {w : World} {a : Addr} {v : Value} (h : w.cell? a = some v) : a.block < w.heap.size := by
  have h1 : w.heap[a.block]? ≠ none := by
    intro e
    simp [World.cell?, e] at h
  exact (Array.getElem?_eq_some_iff.1 (Option.ne_none_iff_exists'.1 h1).choose_spec).1

theorem open_intsAt {H : Type} {enc : TypeId × Value → H} {P : Program} {w : World} {r : Reach} {base : Nat} {t e : TypeId} {k : IntKind} {v : Value} {d : DataW H} {ps : List MemPlace}
    (ht : P.underlying t = some (.slice e)) (he : P.underlying e = some (.int k)) (hc : P.cellsOf e = 1) (hval : Value.okWide P w r base t v) (h : DataW.Trod enc P w 0 (fun _ => true) true t v d ps) :
    ∃ l : List Int, IntsIn k w v l ∧ (∀ n ∈ l, (Lit.int k n).wf = true) ∧ (d = .nil ∨ ∃ zs : List Int, d = .slice (lits k l) (lits k zs)) := by
  obtain ⟨a0, len, cap, rfl⟩ := okWide_slice ht hval
  obtain ⟨fuel, hf⟩ := h
  rcases open_ints ht he hc hf with ⟨hcs, hx⟩ | ⟨a, len', cap', zs, hcs, _, hl, hm, hz, hx, hcell, hwz⟩
  · simp only [Value.cells, List.cons.injEq, and_true] at hcs
    cases hcs
    cases hx
    exact ⟨[], ⟨⟨none, 0, rfl, fun h => absurd rfl h⟩, fun n c h => by cases h; rfl⟩, by simp, .inl rfl⟩
  · simp only [Value.cells, List.cons.injEq, and_true] at hcs
    cases hcs
    cases hx
    simp only [if_true] at hz
    have hlz : (zs.take len).length = len := by rw [List.length_take]; omega
    refine ⟨zs.take len, ⟨⟨some a, cap, by rw [hlz], fun hne => ?_⟩, fun n c h => by cases h⟩, fun n hn => hwz n (List.mem_of_mem_take hn), .inr ⟨_, rfl⟩⟩
    have hpos : 0 < zs.length := by
      rcases Nat.eq_zero_or_pos len with h0 | h0
      · subst h0; simp at hne
      · omega
    obtain ⟨b, off, rfl, hcell'⟩ := ints_at hcell hpos
    refine ⟨b, off, rfl, block_of_cell (hcell' 0 hpos), fun j hj => ?_⟩
    have hj' : j < zs.length := by rw [hlz] at hj; omega
    rw [hcell' j hj', List.getElem_take]
    congr 2
    simp [List.getD, hj']

/-- A struct or an array, as its cells. -/
theorem open_agg {P : Program} {w : World} {base : Nat} {t : TypeId} {v : Value} {ts : List TypeId} (hu : (∃ fs, P.underlying t = some (.struct fs)) ∨ ∃ n e, P.underlying t = some (.array n e))
    (hts : P.cellTypes P.depth t = some ts) (hc : P.cellsOf t = ts.length) (hval : Value.okWide P w .any base t v) :
    ∃ cs : Array Value, v = .agg cs ∧ cs.size = ts.length ∧ ∀ (i : Nat) (u : TypeId) (x : Value), ts[i]? = some u → cs[i]? = some x → Cell.okWide P w .any base u x := by
  have h : ∃ cs, v = .agg cs ∧ cs.size = P.cellsOf t ∧ Row.okWide P w .any base t cs := by
    unfold Value.okWide at hval
    rcases hu with ⟨fs, hu⟩ | ⟨n, e, hu⟩ <;> rw [hu] at hval <;> exact hval
  obtain ⟨cs, rfl, hz, ts', hts', _, hk⟩ := h
  rw [hts] at hts'
  cases hts'
  refine ⟨cs, rfl, hz.trans hc, fun i u x hi hx => ?_⟩
  obtain ⟨u', hu', hok⟩ := hk i x hx
  have hlt : i < ts.length := (List.getElem?_eq_some_iff.1 hi).1
  rw [Nat.mod_eq_of_lt hlt, hi] at hu'
  cases hu'
  exact hok
theorem cell_int {P : Program} {w : World} {base : Nat} {t : TypeId} {k : IntKind} {v : Value} (ht : P.underlying t = some (.int k)) (h : Cell.okWide P w .any base t v) : ∃ n, v = .int k n ∧ (Lit.int k n).wf = true := by
  cases v <;> simp [Cell.okWide, Cell.ok, ht] at h
  obtain ⟨rfl, h⟩ := h
  refine ⟨_, rfl, ?_⟩
  simp only [Lit.wf, Bool.and_eq_true, decide_eq_true_eq]
  exact h
theorem cell_bool {P : Program} {w : World} {base : Nat} {t : TypeId} {v : Value} (ht : P.underlying t = some .bool) (h : Cell.okWide P w .any base t v) : ∃ b, v = .bool b := by
  cases v <;> simp [Cell.okWide, Cell.ok, ht] at h
  exact ⟨_, rfl⟩
theorem cell_string {P : Program} {w : World} {base : Nat} {t : TypeId} {v : Value} (ht : P.underlying t = some .string) (h : Cell.okWide P w .any base t v) : ∃ s, v = .string s ∧ s.size ≤ maxLen := by
  cases v <;> simp [Cell.okWide, Cell.ok, ht] at h
  refine ⟨_, rfl, ?_⟩
  simp only [maxLen] at h ⊢
  have := h
  omega
end Go.Proofs.YtnekpehgaojkaaaDoor
