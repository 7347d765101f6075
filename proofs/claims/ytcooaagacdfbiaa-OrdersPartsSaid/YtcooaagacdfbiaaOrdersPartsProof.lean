/-
  'Rows.OrdersPartsSaid': whatever the input, the law returns true, and each argument reads behind the call as it did. No condition of our own.
  The walk is in the texts that are imported; here is the row's frame.
-/
import Derived.Test.YtcooaagacdfbiaaLaw
import Derived.Test.YtcooaagacdfbiaaC9m
import Derived.Test.YtcooaagacdfbiaaOpen
namespace Go.Proofs.Ytcooaagacdfbiaa.ordersParts
open Go.ChangeShapes Go.WideShapes Go.ChangeAt Go.RowKit Go.Proofs.Ytcooaagacdfbiaa
open Go.ChangeMaps (open_string shut_string)

theorem arr5 {cs : Array Value} (h : cs.size = 5) : ∃ x0 x1 x2 x3 x4, cs = #[x0, x1, x2, x3, x4] := by
  obtain ⟨l⟩ := cs
  match l, h with | [x0, x1, x2, x3, x4], _ => exact ⟨x0, x1, x2, x3, x4, rfl⟩
set_option maxRecDepth 100000 in
theorem lifted (os : Os) (started : os.Started) (H : Type) (enc : TypeId × Value → H) :
    ReturnsInHanded {} Try.checked os 7 .any (Rows.ordersPartsSpec.pre6 enc Try.prog Try.f7 Rows.ordersPartsRow.domain false) (Rows.ordersPartsSpec.post enc Try.prog Try.f7 false true false false) := by
  refine returnsInHanded_of_change (C := Try.checked) own started (by kernel_rfl) Try.func7
    (ChangeSpec.witness6 (enc := enc) (C := Try.checked) false ⟨#[], #[.agg #[.int .i64 0, .int .i64 0, .int .i64 0, .int .i64 0, .int .i64 0]], []⟩ 8 (by kernel_rfl) (by kernel_rfl) (by kernel_rfl) (by kernel_rfl)) ?_
  intro W base args ds gs before hval0 hW hcnd _
  have hval : ∀ (j : Nat) t v, Try.f7.params[j]? = some t → args[j]? = some v → Value.okWide Try.prog W .any base t v := hval0
  have hW' := hW
  obtain ⟨p, q, hA0, hV, rfl, hfz, hnd⟩ := hW
  have hA : DataW.TrodAll enc Try.prog W 0 (fun _ => true) true Try.f7.params.toList args.toList ds p := hA0
  rw [Try.params7] at hA hval
  obtain ⟨v0, vs0, d0, ds0, p0, q0, hargs, rfl, rfl, h0, r0⟩ := trodAll_cons hA
  obtain ⟨rfl, rfl, rfl⟩ := trodAll_nil r0
  obtain rfl : args = #[v0] := by cases args; simp_all
  obtain ⟨rfl, rfl⟩ := trodVars_none hV
  obtain ⟨c0, rfl, z0, k0⟩ := open_agg (ts := [3, 3, 3, 3, 3]) (.inl ⟨_, Try.underlying23⟩) (by kernel_rfl) (by kernel_rfl) (hval 0 23 v0 rfl rfl)
  obtain ⟨x0_0, x0_1, x0_2, x0_3, x0_4, rfl⟩ : ∃ x0_0 x0_1 x0_2 x0_3 x0_4, c0 = #[x0_0, x0_1, x0_2, x0_3, x0_4] := arr5 z0
  obtain ⟨a0_0, rfl, w0_0⟩ := cell_int Try.underlying3 (k0 0 3 x0_0 rfl rfl)
  obtain ⟨a0_1, rfl, w0_1⟩ := cell_int Try.underlying3 (k0 1 3 x0_1 rfl rfl)
  obtain ⟨a0_2, rfl, w0_2⟩ := cell_int Try.underlying3 (k0 2 3 x0_2 rfl rfl)
  obtain ⟨a0_3, rfl, w0_3⟩ := cell_int Try.underlying3 (k0 3 3 x0_3 rfl rfl)
  obtain ⟨a0_4, rfl, w0_4⟩ := cell_int Try.underlying3 (k0 4 3 x0_4 rfl rfl)
  clear hA0 hval0 hcnd hfz hnd
  refine (ordersParts_walk a0_0 a0_1 a0_2 a0_3 a0_4 w0_0 w0_1 w0_2 w0_3 w0_4 W).mono fun e W' ⟨he, hb⟩ => ?_
  subst he
  exact ⟨_, rfl, law_post laidOut (by kernel_rfl) rfl rfl Try.underlying4 ⟨rfl, rfl, rfl⟩ hW' hb⟩

theorem over : Rows.ordersPartsRow.holds Try.pinned (OpenSpec.ofChange Rows.ordersPartsSpec) :=
  OpenClaim.holds_of_wide 7 Try.f7 rfl rfl rfl rfl rfl rfl rfl ⟨rfl, rfl, rfl, rfl, rfl⟩ rfl rfl rfl rfl rfl (by kernel_rfl) Try.func7 (by kernel_rfl)
    (of_decide_eq_true (by kernel_rfl)) (by unfold Func.isWrapper; first | (rw [if_pos (by decide +kernel)]; kernel_rfl) | (rw [if_neg (by decide +kernel)]; exact ⟨rfl, rfl⟩))
    (fun os started H enc _ => lifted os started H enc)

/-- THE STATEMENT. -/
theorem proved : Rows.OrdersPartsSaid :=
  over
#print axioms proved
end Go.Proofs.Ytcooaagacdfbiaa.ordersParts
