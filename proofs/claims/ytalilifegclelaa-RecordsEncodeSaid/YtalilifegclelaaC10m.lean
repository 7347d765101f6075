/- The reader of records: a list of spots. -/
import Derived.Test.YtalilifegclelaaC10l
namespace Go.Proofs.Ytalilifegclelaa
open Go.RowKit

def rdSpt (s : List UInt8) (a : Nat) (b : Bool) : Spt × Nat × Bool := (⟨(rdL s 2 a b).1.getD 0 0, (rdL s 2 a b).1.getD 1 0⟩, (rdL s 2 a b).2)
def noSpt : Spt := ⟨0, 0⟩
theorem rdSpt_cells : ∀ (xs : List Int), xs.length ≤ 2 → putAt (sptCells noSpt) [0, 1] xs = sptCells ⟨xs.getD 0 0, xs.getD 1 0⟩
  | [], _ => rfl
  | [_], _ => rfl
  | [_, _], _ => rfl
  | _ :: _ :: _ :: _, h => by simp at h

set_option maxRecDepth 100000 in
set_option maxHeartbeats 2000000 in
theorem rspot_any {R C a : Nat} {b : Bool} {s : ByteArray} {w : World} (hs : s.size ≤ maxLen) (hR : w.heap[R]? = some (.cells (rdCells s a b) 58 (0, 0))) (hC : w.cell? ⟨C, 0, none⟩ = some (.pointer (some ⟨R, 0, none⟩))) :
    Calls Try.prog 34 #[.pointer (some ⟨C, 0, none⟩)] w fun e w' => e = .returned (.agg (sptCells (rdSpt s.data.toList a b).1)) ∧
      w'.heap[R]? = some (.cells (rdCells s (rdSpt s.data.toList a b).2.1 (rdSpt s.data.toList a b).2.2) 58 (0, 0)) ∧ Wrote R R w w' := by
  have hlt := (Array.getElem?_eq_some_iff.1 hR).1
  have hCl : C < w.heap.size := block_lt_of_cell hC
  obtain ⟨w1, e1, b1, s1, h1⟩ := boxed w (sptCells noSpt) 32
  obtain ⟨w2, e2, b2, s2, c2⟩ := ptrs_built w1 w.heap.size [0, 1] 60
  have hW2 : Wrote R R w w2 := by rw [← e2, ← e1]; exact (Wrote.of_alloc _ _).trans (Wrote.of_alloc _ _)
  have HX := Lib.hid (rints_any (R := R) (T := w.heap.size) (g := w1.heap.size) (off := 0) (cap := 2) (os := [0, 1]) hs (by rw [b2.block R (by omega), b1.block R hlt]; exact hR) ((b2.block _ (by omega)).trans h1) (by omega) (by omega) (by omega) (by omega)
    (by intro o ho; simp at ho; rcases ho with rfl | rfl <;> exact ⟨0, rfl⟩) (by decide) c2)
  rw [s1] at HX
  have E1 := Lib.hid (show w.alloc (.cells #[.int .i64 0, .int .i64 0] 32) = w1 from e1)
  have E2 := Lib.hid (show w1.alloc (.cells #[.pointer (some ⟨w.heap.size, 0, none⟩), .pointer (some ⟨w.heap.size, 1, none⟩)] 60) = w2 from e2)
  have hl5 := rdL_len s.data.toList 2 a b
  have hq : ([0, 1] : List Nat).length = 2 := rfl
  rw [hq] at HX
  obtain ⟨E, hEd⟩ : ∃ E, rdSpt s.data.toList a b = E := ⟨_, rfl⟩
  rw [hEd]
  have HE := Lib.hid (show E = (⟨(rdL s.data.toList 2 a b).1.getD 0 0, (rdL s.data.toList 2 a b).1.getD 1 0⟩, (rdL s.data.toList 2 a b).2) from hEd.symm)
  clear e1 e2 h1 c2 hR hEd
  go_enter Try.func34, Try.ntmps34
  go_wp2_with fail
  rw [E1.out, E2.out]
  refine HX.out.mono ?_
  rintro e w3 ⟨rfl, r3, t3, hW3⟩
  rw [rdSpt_cells _ hl5] at t3
  have hE' : (⟨(rdL s.data.toList 2 a b).1.getD 0 0, (rdL s.data.toList 2 a b).1.getD 1 0⟩ : Spt) = E.1 := by rw [HE.out]
  have hE2 : (rdL s.data.toList 2 a b).2 = E.2 := by rw [HE.out]
  rw [hE'] at t3
  rw [hE2] at r3
  obtain ⟨c0, c1⟩ := spt_cells t3
  have R3 := Lib.hid r3
  have hr3 := t3
  clear r3 t3 hE' hE2 hC
  go_wp2_with (refine wpList_store_row rfl _ _ _ rfl w.heap.size (sptCells E.1) rfl rfl _ _ hr3 (by kernel_rfl) rfl (by simp [sptCells, Value.oneCell']) ?_)
  (try simp only [Exit.inBlock, Exit.then])
  have hW4 := hW2.fresh (hW3.row (.inr rfl) (sptCells E.1)) (Nat.le_refl _)
  have r4 := (setRow_other w3 w.heap.size R (sptCells E.1) (by omega)).trans R3.out
  have t4 := setRow_heap w3 w.heap.size _ (sptCells E.1) _ _ hr3
  obtain ⟨k0, k1⟩ := spt_cells t4
  refine bodyPost_ret (by simp [results, Try.results34, go_sem, k0, k1]; rfl) rfl ⟨rfl, r4, hW4⟩
end Go.Proofs.Ytalilifegclelaa
