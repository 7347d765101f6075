/- The reader of packs: Order, Entry. -/
import Derived.Test.YtnekpehgaojkaaaDoorC11j
namespace Go.Proofs.YtnekpehgaojkaaaDoor
open Go.RowKit

theorem Wrote.of_alloc {R T : Nat} (w : World) (o : Obj) : Wrote R T w (w.alloc o) :=
  ⟨(Below.refl _ _).alloc (Nat.zero_le _) o, fun k hk _ _ => ((Below.refl _ _).alloc (Nat.le_refl _) o : Below w.heap.size w (w.alloc o)).block k hk⟩
/-- Memory of its own is written as it likes. -/
theorem Wrote.fresh {R T : Nat} {w w1 w2 : World} (h : Wrote R R w w1) (h2 : Wrote R T w1 w2) (hT : w.heap.size ≤ T) : Wrote R R w w2 :=
  ⟨h.below.trans h2.below, fun k hk h1 _ => (h2.other k (Nat.lt_of_lt_of_le hk h.below.size) h1 (by omega)).trans (h.other k hk h1 h1)⟩
def rdOrd (xs : List Int) : Ord := ⟨xs.getD 0 0, xs.getD 1 0, xs.getD 2 0, xs.getD 3 0, xs.getD 4 0⟩
def noOrd : Ord := ⟨0, 0, 0, 0, 0⟩
theorem rdOrd_cells : ∀ (xs : List Int), xs.length ≤ 5 → putAt (ordCells noOrd) [0, 1, 2, 3, 4] xs = ordCells (rdOrd xs)
  | [], _ => rfl
  | [_], _ => rfl
  | [_, _], _ => rfl
  | [_, _, _], _ => rfl
  | [_, _, _, _], _ => rfl
  | [_, _, _, _, _], _ => rfl
  | _ :: _ :: _ :: _ :: _ :: _ :: _, h => by simp at h
theorem ord_one (o : Ord) : (ordCells o).all (·.oneCell') = true := by simp [ordCells, Value.oneCell']
def ptrs (T : Nat) (os : List Nat) : List Value := os.map fun o => .pointer (some ⟨T, o, none⟩)
theorem ptrs_built (w : World) (T : Nat) (os : List Nat) (t : TypeId) : ∃ w1, w.alloc (.cells (ptrs T os).toArray t) = w1 ∧ Below w.heap.size w w1 ∧ w1.heap.size = w.heap.size + 1 ∧ ∀ j (h : j < os.length), w1.cell? ⟨w.heap.size, 0 + j, none⟩ = some (.pointer (some ⟨T, os[j], none⟩)) := by
  refine ⟨_, rfl, (Below.refl _ _).alloc (Nat.le_refl _) _, by simp, fun j hj => ?_⟩
  rw [World.cell?_alloc_mark, Nat.zero_add]
  simp [hj, ptrs]

set_option maxRecDepth 100000 in
set_option maxHeartbeats 2000000 in
theorem rorder_any {R a : Nat} {b : Bool} {s : ByteArray} {w : World} (hs : s.size ≤ maxLen) (hR : w.heap[R]? = some (.cells (rdCells s a b) 58 (0, 0))) :
    Calls Tryd.prog 31 #[.pointer (some ⟨R, 0, none⟩)] w fun e w' => e = .returned (.agg (ordCells (rdOrd (rdL s.data.toList 5 a b).1))) ∧
      w'.heap[R]? = some (.cells (rdCells s (rdL s.data.toList 5 a b).2.1 (rdL s.data.toList 5 a b).2.2) 58 (0, 0)) ∧ Wrote R R w w' := by
  have hlt := (Array.getElem?_eq_some_iff.1 hR).1
  obtain ⟨w1, e1, b1, s1, h1⟩ := boxed w (ordCells noOrd) 24
  obtain ⟨w2, e2, b2, s2, c2⟩ := ptrs_built w1 w.heap.size [0, 1, 2, 3, 4] 60
  have hW2 : Wrote R R w w2 := by rw [← e2, ← e1]; exact (Wrote.of_alloc _ _).trans (Wrote.of_alloc _ _)
  have HX := Lib.hid (rints_any (R := R) (T := w.heap.size) (g := w1.heap.size) (off := 0) (cap := 5) (os := [0, 1, 2, 3, 4]) hs (by rw [b2.block R (by omega), b1.block R hlt]; exact hR) ((b2.block _ (by omega)).trans h1) (by omega) (by omega) (by omega) (by omega)
    (by intro o ho; simp at ho; rcases ho with rfl | rfl | rfl | rfl | rfl <;> exact ⟨0, rfl⟩) (by decide) c2)
  rw [s1] at HX
  have E1 := Lib.hid (show w.alloc (.cells #[.int .i64 0, .int .i64 0, .int .i64 0, .int .i64 0, .int .i64 0] 24) = w1 from e1)
  have E2 := Lib.hid (show w1.alloc (.cells #[.pointer (some ⟨w.heap.size, 0, none⟩), .pointer (some ⟨w.heap.size, 1, none⟩), .pointer (some ⟨w.heap.size, 2, none⟩), .pointer (some ⟨w.heap.size, 3, none⟩), .pointer (some ⟨w.heap.size, 4, none⟩)] 60) = w2 from e2)
  have hl5 := rdL_len s.data.toList 5 a b
  have hq : ([0, 1, 2, 3, 4] : List Nat).length = 5 := rfl
  rw [hq] at HX
  generalize rdL s.data.toList 5 a b = xs at *
  clear e1 e2 h1 c2 hR
  go_enter Tryd.func31, Tryd.ntmps31
  go_wp2_with fail
  rw [E1.out]
  go_wp2_with fail
  rw [E2.out]
  refine HX.out.mono ?_
  rintro e w3 ⟨rfl, r3, t3, hW3⟩
  rw [rdOrd_cells _ hl5] at t3
  obtain ⟨c0, c1, c2', c3, c4⟩ := ord_cells t3
  have R3 := Lib.hid r3
  have hr3 := t3
  clear r3 t3
  go_wp2_with (refine wpList_store_row rfl _ _ _ rfl w.heap.size (ordCells (rdOrd xs.1)) rfl rfl _ _ hr3 (by kernel_rfl) rfl (ord_one _) ?_)
  (try simp only [Exit.inBlock, Exit.then])
  have hW4 := hW2.fresh (hW3.row (.inr rfl) (ordCells (rdOrd xs.1))) (Nat.le_refl _)
  have r4 := (setRow_other w3 w.heap.size R (ordCells (rdOrd xs.1)) (by omega)).trans R3.out
  have t4 := setRow_heap w3 w.heap.size _ (ordCells (rdOrd xs.1)) _ _ hr3
  obtain ⟨k0, k1, k2, k3, k4⟩ := ord_cells t4
  refine bodyPost_ret (by simp [results, Tryd.results31, go_sem, k0, k1, k2, k3, k4]; rfl) rfl ⟨rfl, r4, hW4⟩

/-- An entry that was read: its epoch, its order; where; is one not there. -/
def rdEnt (s : List UInt8) (a : Nat) (b : Bool) : Ent × Nat × Bool :=
  let p := rdL s 1 a b
  let q := rdL s 5 p.2.1 p.2.2
  (⟨p.1.getD 0 0, rdOrd q.1⟩, q.2)
def noEnt : Ent := ⟨0, noOrd⟩
theorem rdEp_cells : ∀ (xs : List Int), xs.length ≤ 1 → putAt (entCells noEnt) [0] xs = entCells ⟨xs.getD 0 0, noOrd⟩
  | [], _ => rfl
  | [_], _ => rfl
  | _ :: _ :: _, h => by simp at h

theorem ent_row (n : Int) (o p : Ord) : (List.take (1 + 0) (entCells ⟨n, o⟩).toList ++ (ordCells p).toList ++ List.drop (1 + 0 + (ordCells p).toList.length) (entCells ⟨n, o⟩).toList).toArray = entCells ⟨n, p⟩ := rfl

set_option maxRecDepth 100000 in
set_option maxHeartbeats 2000000 in
theorem rentry_any {R a : Nat} {b : Bool} {s : ByteArray} {w : World} (hs : s.size ≤ maxLen) (hR : w.heap[R]? = some (.cells (rdCells s a b) 58 (0, 0))) :
    Calls Tryd.prog 30 #[.pointer (some ⟨R, 0, none⟩)] w fun e w' => e = .returned (.agg (entCells (rdEnt s.data.toList a b).1)) ∧
      w'.heap[R]? = some (.cells (rdCells s (rdEnt s.data.toList a b).2.1 (rdEnt s.data.toList a b).2.2) 58 (0, 0)) ∧ Wrote R R w w' := by
  have hlt := (Array.getElem?_eq_some_iff.1 hR).1
  obtain ⟨w1, e1, b1, s1, h1⟩ := boxed w (entCells noEnt) 30
  obtain ⟨w2, e2, b2, s2, c2⟩ := ptrs_built w1 w.heap.size [0] 60
  have hW2 : Wrote R R w w2 := by rw [← e2, ← e1]; exact (Wrote.of_alloc _ _).trans (Wrote.of_alloc _ _)
  have HX := Lib.hid (rints_any (R := R) (T := w.heap.size) (g := w1.heap.size) (off := 0) (cap := 1) (os := [0]) hs (by rw [b2.block R (by omega), b1.block R hlt]; exact hR) ((b2.block _ (by omega)).trans h1) (by omega) (by omega) (by omega) (by omega)
    (by intro o ho; simp at ho; rcases ho with rfl; exact ⟨0, rfl⟩) (by decide) c2)
  rw [s1] at HX
  have E1 := Lib.hid (show w.alloc (.cells #[.int .i64 0, .int .i64 0, .int .i64 0, .int .i64 0, .int .i64 0, .int .i64 0] 30) = w1 from e1)
  have E2 := Lib.hid (show w1.alloc (.cells #[.pointer (some ⟨w.heap.size, 0, none⟩)] 60) = w2 from e2)
  have hl1 := rdL_len s.data.toList 1 a b
  have hq : ([0] : List Nat).length = 1 := rfl
  rw [hq] at HX
  obtain ⟨E, hE⟩ : ∃ E, rdEnt s.data.toList a b = E := ⟨_, rfl⟩
  rw [hE]
  simp only [rdEnt] at hE
  have HE := Lib.hid hE
  clear hE
  generalize rdL s.data.toList 1 a b = xs at *
  clear e1 e2 h1 c2 hR
  go_enter Tryd.func30, Tryd.ntmps30
  go_wp2_with fail
  rw [E1.out]
  go_wp2_with fail
  rw [E2.out]
  refine HX.out.mono ?_
  rintro e w3 ⟨rfl, r3, t3, hW3⟩
  rw [rdEp_cells _ hl1] at t3
  have HO := Lib.hid (rorder_any hs r3)
  generalize rdL s.data.toList 5 xs.2.1 xs.2.2 = ys at *
  generalize xs.1.getD 0 0 = n0 at *
  have T3 := Lib.hid t3
  clear r3 t3
  go_wp2_with fail
  refine HO.out.mono ?_
  rintro e w4 ⟨rfl, r4, hW4⟩
  have ht4 := (hW4.other w.heap.size (by have := hW3.below.size; omega) (by omega) (by omega)).trans T3.out
  have HR4 := Lib.hid r4
  clear r4
  go_wp2
  rw [run_storeCells_at Tryd.prog w.heap.size 1 30 (ordCells (rdOrd ys.1)).toList 0 _ w4 ht4 (by simp [entCells, ordCells]) (by intro v hv; simp [ordCells] at hv; rcases hv with rfl | rfl | rfl | rfl | rfl <;> rfl)]
  rw [ent_row]
  simp only [Result.andThen]
  obtain ⟨w5, hw5⟩ : ∃ w5, w4.setRow w.heap.size (entCells ⟨n0, rdOrd ys.1⟩) = w5 := ⟨_, rfl⟩
  have t5 := setRow_heap w4 w.heap.size _ (entCells ⟨n0, rdOrd ys.1⟩) _ _ ht4
  have r5 := (setRow_other w4 w.heap.size R (entCells ⟨n0, rdOrd ys.1⟩) (by omega)).trans HR4.out
  have hW5 := (hW2.fresh hW3 (Nat.le_refl _)).trans hW4
  have hW5' := hW5.fresh ((Wrote.refl R w.heap.size w4).row (.inr rfl) (entCells ⟨n0, rdOrd ys.1⟩)) (Nat.le_refl _)
  rw [hw5] at t5 r5 hW5' ⊢
  clear ht4 hw5
  have R5 := Lib.hid r5
  obtain ⟨c0, c1, c2', c3, c4, c5⟩ := ent_cells t5
  clear r5
  go_wp2_with (refine wpList_store_row rfl _ _ _ rfl w.heap.size (entCells ⟨n0, rdOrd ys.1⟩) rfl rfl _ _ t5 (by kernel_rfl) rfl (by simp [entCells, Value.oneCell']) ?_)
  (try simp only [Exit.inBlock, Exit.then])
  have hW6 := hW5'.fresh ((Wrote.refl R w.heap.size w5).row (.inr rfl) (entCells ⟨n0, rdOrd ys.1⟩)) (Nat.le_refl _)
  have r6 := (setRow_other w5 w.heap.size R (entCells ⟨n0, rdOrd ys.1⟩) (by omega)).trans R5.out
  have t6 := setRow_heap w5 w.heap.size _ (entCells ⟨n0, rdOrd ys.1⟩) _ _ t5
  obtain ⟨k0, k1, k2, k3, k4, k5⟩ := ent_cells t6
  refine bodyPost_ret (by simp [results, Tryd.results30, go_sem, k0, k1, k2, k3, k4, k5]; rw [← HE.out]; rfl) rfl ⟨rfl, by rw [← HE.out]; exact r6, hW6⟩
end Go.Proofs.YtnekpehgaojkaaaDoor
