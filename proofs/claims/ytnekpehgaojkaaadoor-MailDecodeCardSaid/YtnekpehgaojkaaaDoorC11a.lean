/- Entries, as they lie. (Made by wip/src/layer11.py of layer 10's texts.) -/
import Derived.Test.YtnekpehgaojkaaaDoorC11f
namespace Go.Proofs.YtnekpehgaojkaaaDoor
open Go.RowKit

theorem EntsAt.rebase {B : Nat} {w : World} {v : Value} {es : List Ent} (h : EntsAt B w v es) (B' : Nat) (hB : w.heap.size ≤ B') : EntsAt B' w v es := by
  obtain ⟨a, cap, hv, hc⟩ := h
  refine ⟨a, cap, hv, fun hl => ?_⟩
  obtain ⟨b, off, ha, hlt, _, hcell⟩ := hc hl
  exact ⟨b, off, ha, hlt, .inl (by omega), hcell⟩
theorem log_small {es : List Ent} {s f : Int} (h : logGood es s f = true) : es.length ≤ 64 := by
  unfold logGood at h
  simp only [Bool.and_eq_true, decide_eq_true_eq, within_iff] at h
  omega
theorem putL_ne {n : Int} {ns : List Int} : putL (n :: ns) ≠ [] := by
  intro h
  have := congrArg List.length h
  have h2 := (Marks.put_len n).1
  have e : putL (n :: ns) = Marks.put n ++ putL ns := rfl
  rw [e, List.length_append, List.length_nil] at this
  omega
end Go.Proofs.YtnekpehgaojkaaaDoor
