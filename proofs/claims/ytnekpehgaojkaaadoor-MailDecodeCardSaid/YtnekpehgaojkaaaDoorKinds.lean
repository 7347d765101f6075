/- What the row's listed table says of the memory: mail's table of kinds lies there. -/
import Derived.Test.YtnekpehgaojkaaaDoorRows
import Derived.Test.YtnekpehgaojkaaaDoorC11b
import Derived.ProofKit
import Derived.LaidMore
import Derived.OpenShut
import Derived.Stop.Joined
namespace Go.Proofs.YtnekpehgaojkaaaDoor
open Go.ChangeShapes Go.WideShapes Go.ChangeAt Go.RowKit

def laidK {H : Type} : List (String × DataW H) := [("archipelago/mail.kinds", Rows.laid_archipelago_mail_kinds)]
theorem gKinds : Tryd.prog.globalNamed "archipelago/mail.kinds" = some 0 := by kernel_rfl
theorem tKinds : (Tryd.prog.globals[0]?).map (·.type) = some 74 := by kernel_rfl
/-- The door's own heap meets the condition. -/
theorem door_met (os : Os) (args : Array Value) : laidMetH Tryd.prog laidK ((World.doorLaid Tryd.prog 400 os).forCall (fun _ _ => 0) ⟨#[], args, []⟩).memory :=
  laidMetH_of_parts3 (fuel := 8) (laidMet_of_run' 8 (by kernel_rfl) (by kernel_rfl)) (by kernel_rfl) (by kernel_rfl)
theorem of_laidK {W : World} (h : laidMetH Tryd.prog laidK W) : KindsAt W := by
  rw [MakeChecks.laidMetH_plain _ _ _ (by kernel_rfl)] at h
  obtain ⟨ps, ⟨g0, t0, cs0, f0, p0, q0, hg0, ht0, hv0, hd0, hrest⟩, _⟩ := h
  clear hrest
  obtain rfl := Option.some.inj (gKinds.symm.trans hg0)
  obtain rfl := Option.some.inj (tKinds.symm.trans ht0)
  obtain ⟨xs, m1, rfl, hx1, hlen, hn3, hel⟩ := DataW.trod_array Tryd.underlying74 hd0
  have c1 : Tryd.prog.cellsOf 3 = 1 := by kernel_rfl
  have hx2 : xs.map (·.1) = [.lit (.int .i64 0), .lit (.int .i64 35), .lit (.int .i64 119), .lit (.int .i64 3), .lit (.int .i64 123), .lit (.int .i64 51), .lit (.int .i64 19), .lit (.int .i64 128), .lit (.int .i64 257), .lit (.int .i64 3), .lit (.int .i64 3)] := by
    have h := congrArg Prod.fst hx1
    simp only [Rows.laid_archipelago_mail_kinds, DataW.agg.injEq] at h
    exact h.symm
  clear hx1
  have key : ∀ (i : Nat) (k : Int), i < 11 → (xs.map (·.1))[i]? = some (.lit (.int .i64 k)) → W.cell? ⟨0, i, none⟩ = some (.int .i64 k) := by
    intro i k hi hk
    have hx := hel i hi
    rw [c1, Nat.mul_one] at hx
    rw [List.getElem?_map] at hk
    obtain ⟨x, hxi, hx0⟩ := Option.map_eq_some_iff.1 hk
    rw [hxi] at hx
    obtain ⟨n, e1, e2, _⟩ := DataW.trod_int Tryd.underlying3 hx
    have hn : n = k := by rw [e2] at hx0; simpa using hx0
    subst hn
    have h0 : cs0.toList[i]? = some (.int .i64 n) := by
      have h1 : (List.take 1 (List.drop i cs0.toList))[0]? = some (.int .i64 n) := by rw [e1]; rfl
      simpa [List.getElem?_take, List.getElem?_drop] using h1
    rw [World.var?_cell hg0 hv0 i]
    simpa using h0
  rw [hx2] at key
  exact ⟨key 0 _ (by decide) rfl, key 1 _ (by decide) rfl, key 2 _ (by decide) rfl, key 3 _ (by decide) rfl, key 4 _ (by decide) rfl, key 5 _ (by decide) rfl, key 6 _ (by decide) rfl, key 7 _ (by decide) rfl, key 8 _ (by decide) rfl, key 9 _ (by decide) rfl, key 10 _ (by decide) rfl⟩
end Go.Proofs.YtnekpehgaojkaaaDoor
