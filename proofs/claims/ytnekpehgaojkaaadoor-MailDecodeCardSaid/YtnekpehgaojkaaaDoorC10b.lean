/- The contracts of packs: Entry, List. -/
import Derived.Test.YtnekpehgaojkaaaDoorC10a
namespace Go.Proofs.YtnekpehgaojkaaaDoor
open Go.RowKit

structure Ent where
  epoch : Int
  ord : Ord
def Ent.nums (x : Ent) : List Int := x.epoch :: x.ord.nums
def Ent.fld (x : Ent) : Nat → Int | 0 => x.epoch | k + 1 => x.ord.fld k
def entCells (x : Ent) : Array Value := #[.int .i64 x.epoch, .int .i64 x.ord.id, .int .i64 x.ord.stream, .int .i64 x.ord.expect, .int .i64 x.ord.kind, .int .i64 x.ord.arg]
def EntOk (x : Ent) : Prop := ∀ n ∈ x.nums, -9223372036854775808 ≤ n ∧ n ≤ 9223372036854775807
theorem ent_cells {w : World} {B : Nat} {x : Ent} {t : TypeId} (h : w.heap[B]? = some (.cells (entCells x) t (0, 0))) :
    w.cell? ⟨B, 0, none⟩ = some (.int .i64 x.epoch) ∧ w.cell? ⟨B, 1, none⟩ = some (.int .i64 x.ord.id) ∧ w.cell? ⟨B, 2, none⟩ = some (.int .i64 x.ord.stream) ∧ w.cell? ⟨B, 3, none⟩ = some (.int .i64 x.ord.expect) ∧ w.cell? ⟨B, 4, none⟩ = some (.int .i64 x.ord.kind) ∧ w.cell? ⟨B, 5, none⟩ = some (.int .i64 x.ord.arg) := by
  refine ⟨?_, ?_, ?_, ?_, ?_, ?_⟩ <;> simp [World.cell?, h, entCells]
theorem cells_no_bytes {w : World} {k : Nat} {cs : Array Value} {t : TypeId} {fr : Nat × Nat} (ht : t ≠ 5) (h : w.heap[k]? = some (.cells cs t fr)) : NoBytes w k := fun cur fr' e => by
  rw [h] at e
  injection e with e1
  injection e1 with _ e2
  exact ht e2

/-- Six cells of one block. -/
theorem six_kept {B : Nat} {w w' : World} (h : Kept B w w') {g o0 o1 o2 o3 o4 o5 : Nat} {a b c d e f : Value} (hg : g < w.heap.size) (hn : NoBytes w g)
    (hh : w.cell? ⟨g, o0, none⟩ = some a ∧ w.cell? ⟨g, o1, none⟩ = some b ∧ w.cell? ⟨g, o2, none⟩ = some c ∧ w.cell? ⟨g, o3, none⟩ = some d ∧ w.cell? ⟨g, o4, none⟩ = some e ∧ w.cell? ⟨g, o5, none⟩ = some f) :
    w'.cell? ⟨g, o0, none⟩ = some a ∧ w'.cell? ⟨g, o1, none⟩ = some b ∧ w'.cell? ⟨g, o2, none⟩ = some c ∧ w'.cell? ⟨g, o3, none⟩ = some d ∧ w'.cell? ⟨g, o4, none⟩ = some e ∧ w'.cell? ⟨g, o5, none⟩ = some f :=
  ⟨(h.cell (p := ⟨g, o0, none⟩) hg hn).trans hh.1, (h.cell (p := ⟨g, o1, none⟩) hg hn).trans hh.2.1, (h.cell (p := ⟨g, o2, none⟩) hg hn).trans hh.2.2.1, (h.cell (p := ⟨g, o3, none⟩) hg hn).trans hh.2.2.2.1, (h.cell (p := ⟨g, o4, none⟩) hg hn).trans hh.2.2.2.2.1, (h.cell (p := ⟨g, o5, none⟩) hg hn).trans hh.2.2.2.2.2⟩

set_option maxRecDepth 100000 in
set_option maxHeartbeats 4000000 in
theorem entry_any {B : Nat} {w : World} {v : Value} {l : List UInt8} (hv : BufAt B w v l) (hB : B ≤ w.heap.size) (x : Ent) (hx : EntOk x) (hl : l.length + 60 ≤ 1000000) :
    Calls Tryd.prog 22 #[v, .agg #[.int .i64 x.epoch, .int .i64 x.ord.id, .int .i64 x.ord.stream, .int .i64 x.ord.expect, .int .i64 x.ord.kind, .int .i64 x.ord.arg]] w (BufOut B w (l ++ putL x.nums)) := by
  obtain ⟨w1, e1, b1, s1, h1⟩ := boxed w (entCells x) 30
  obtain ⟨w2a, e2a, b2a, s2a, n2a, c2a⟩ := built w1 [x.epoch]
  obtain ⟨w2, e2, b2, s2, n2, c2⟩ : ∃ w2, w2a.drew = w2 ∧ Below w1.heap.size w1 w2 ∧ w2.heap.size = w1.heap.size + 1 ∧ NoBytes w2 w1.heap.size ∧ ∀ j (h : j < [x.epoch].length), w2.cell? ⟨w1.heap.size, 0 + j, none⟩ = some (.int .i64 [x.epoch][j]) :=
    ⟨_, rfl, b2a.drew, s2a, n2a, c2a⟩
  have hv1 := buf_below hv b1
  have hv2 := buf_below hv1 b2
  have hpl := putL_len [x.epoch]
  have HX := Lib.hid (ints_any hv2 (by omega) [x.epoch] (by show l.length + 10 * 1 ≤ _; omega) (fun n hn => hx n (by simp at hn; subst hn; simp [Ent.nums])) (g := w1.heap.size) (by omega) n2 c2 (cap := 1))
  rw [s1] at HX
  have hoo : OrdOk x.ord := fun n hn => hx n (List.mem_cons_of_mem _ hn)
  have HO := Lib.hid (fun (w' : World) (v' : Value) (h : BufAt B w' v' (l ++ putL [x.epoch])) (hb : B ≤ w'.heap.size) => order_any h hb x.ord hoo (by rw [List.length_append]; simp only [List.length_cons, List.length_nil] at hpl; omega))
  have HE := Lib.hid (show l ++ putL [x.epoch] ++ putL x.ord.nums = l ++ putL x.nums by rw [List.append_assoc, ← putL_app]; rfl)
  have hh2 : w2.heap[w.heap.size]? = some (.cells (entCells x) 30 (0, 0)) := (b2.block w.heap.size (by omega)).trans h1
  have NB := Lib.hid (cells_no_bytes (t := 30) (by decide) hh2)
  have hK2 : Kept B w w2 := (Kept.of_below b1 hB).trans (Kept.of_below b2 (by omega))
  have E1 := Lib.hid (show w.alloc (.cells #[.int .i64 x.epoch, .int .i64 x.ord.id, .int .i64 x.ord.stream, .int .i64 x.ord.expect, .int .i64 x.ord.kind, .int .i64 x.ord.arg] 30) = w1 from e1)
  have E2 := Lib.hid (show (w1.alloc (.cells #[.int .i64 x.epoch] 3)).drew = w2 by rw [← e2, ← e2a]; rfl)
  obtain ⟨c0, c1, c3, c4, c5, c6⟩ := ent_cells h1
  obtain ⟨k0, k1, k3, k4, k5, k6⟩ := ent_cells hh2
  have hw2 : w.heap.size < w2.heap.size := by omega
  clear e1 e2 e2a b2a s2a n2a c2a h1 hv1 hv2 n2 c2 hv hx hoo hpl hh2
  go_enter Tryd.func22, Tryd.ntmps22
  go_wp2_with fail
  rw [E1.out]
  go_region_held3 (fun w' => w'.cell? ⟨w.heap.size, 0, none⟩ = some (.int .i64 x.epoch) ∧ w'.cell? ⟨w.heap.size, 1, none⟩ = some (.int .i64 x.ord.id) ∧ w'.cell? ⟨w.heap.size, 2, none⟩ = some (.int .i64 x.ord.stream) ∧ w'.cell? ⟨w.heap.size, 3, none⟩ = some (.int .i64 x.ord.expect) ∧ w'.cell? ⟨w.heap.size, 4, none⟩ = some (.int .i64 x.ord.kind) ∧ w'.cell? ⟨w.heap.size, 5, none⟩ = some (.int .i64 x.ord.arg))
    (first | exact ⟨c0, c1, c3, c4, c5, c6⟩ | (rw [E2.out]; exact ⟨k0, k1, k3, k4, k5, k6⟩) | exact q3 | exact q4 | exact ⟨trivial, trivial⟩ | go_keep)
    (first
      | (go_at_call 20; rw [E2.out]; refine HX.out.mono ?_; rintro e w3 ⟨v3, rfl, hb3, hk3⟩; have q3 := six_kept hk3 hw2 NB.out ⟨k0, k1, k3, k4, k5, k6⟩)
      | (go_at_call 23; refine (HO.out _ _ hb3 (by have := hk3.size; omega)).mono ?_; rintro e w4 ⟨v4, rfl, hb4, hk4⟩; have q4 := six_kept hk4 (Nat.lt_of_lt_of_le hw2 hk3.size) (hk3.no hw2 NB.out) q3))
  have HB4 := Lib.hid hb4
  have HK4 := Lib.hid ((hK2.trans hk3).trans hk4)
  clear hb3 hb4
  go_wp2
  go_ret
  exact ⟨_, rfl, by rw [← HE.out]; exact HB4.out, HK4.out⟩
end Go.Proofs.YtnekpehgaojkaaaDoor
