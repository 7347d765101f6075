/- The contracts of packs: bytes that grow: Ints, Order, Entry. -/
import Derived.Test.YtnekpehgaojkaaaDoorC9a
import Derived.Lib.AppendStr
import Derived.Deep.RegionHeld3
import Derived.Maps.RangeWalk
namespace Go.Proofs.YtnekpehgaojkaaaDoor
open Go.RowKit

/-- A slice of the call's own holds these bytes. -/
def BufAt (B : Nat) (w : World) (v : Value) (l : List UInt8) : Prop := w.ownsRow B 5 1 v l.length (l.map bv)
/-- Block k is no row of bytes. -/
def NoBytes (w : World) (k : Nat) : Prop := ∀ cur fr, w.heap[k]? ≠ some (.cells cur 5 fr)
/-- Below B, and of what is no row of bytes, nothing is written. -/
structure Kept (B : Nat) (w w' : World) : Prop where
  below : Below B w w'
  other : ∀ k, k < w.heap.size → NoBytes w k → w'.heap[k]? = w.heap[k]?
theorem Kept.refl (B : Nat) (w : World) : Kept B w w := ⟨Below.refl _ _, fun _ _ _ => rfl⟩
theorem Kept.size {B : Nat} {w w' : World} (h : Kept B w w') : w.heap.size ≤ w'.heap.size := h.below.size
theorem Kept.no {B : Nat} {w w' : World} (h : Kept B w w') {k : Nat} (hk : k < w.heap.size) (hn : NoBytes w k) : NoBytes w' k := fun cur fr => by
  rw [h.other k hk hn]; exact hn cur fr
theorem Kept.trans {B : Nat} {a b c : World} (h : Kept B a b) (k : Kept B b c) : Kept B a c :=
  ⟨h.below.trans k.below, fun i hi hn => (k.other i (Nat.lt_of_lt_of_le hi h.size) (h.no hi hn)).trans (h.other i hi hn)⟩
theorem Kept.of_below {B : Nat} {w w' : World} (h : Below w.heap.size w w') (hB : B ≤ w.heap.size) : Kept B w w' := ⟨h.mono hB, fun k hk _ => h.block k hk⟩
theorem Kept.cell {B : Nat} {w w' : World} (h : Kept B w w') {p : Addr} (hk : p.block < w.heap.size) (hn : NoBytes w p.block) : w'.cell? p = w.cell? p := World.cell?_of_block (w := w) (h.other p.block hk hn)
theorem Kept.drewN {B : Nat} {w w' : World} (h : Kept B w w') (d : Nat) : Kept B w (w'.drewN d) := ⟨below_drewN h.below d, h.other⟩
theorem kept_append {B n : Nat} {w w' : World} {v : Value} {xs : List Value} (hown : w.ownsRow B 5 1 v n xs) (hg : w.grownBy w' v.ownBlock) (hB : B ≤ w.heap.size) : Kept B w w' := by
  refine ⟨(Below.refl _ _).grown hg hB (fun k hk => (hown.lt k hk).1), fun k hk hn => hg.block k hk (fun e => ?_)⟩
  rcases hown.2 with ⟨rfl, _⟩ | ⟨g, cap, cur, rfl, _, hh, _⟩
  · cases e
  · cases e
    exact hn _ _ hh
theorem buf_below {B : Nat} {w w' : World} {v : Value} {l : List UInt8} (h : BufAt B w v l) (hb : Below w.heap.size w w') : BufAt B w' v l :=
  World.ownsRow.kept h (show w.grownBy w' none from ⟨hb.os, hb.tape, hb.output, hb.size, fun k hk _ => hb.block k hk⟩) (by cases v.ownBlock <;> simp)
theorem str_cells (l : List UInt8) : Lib.strCells (str l) = l.map bv := rfl
/-- Some ints' marks. -/
def putL (ns : List Int) : List UInt8 := ns.flatMap Marks.put
theorem putL_take (ns : List Int) (k : Nat) (hk : k < ns.length) : putL (ns.take (k + 1)) = putL (ns.take k) ++ Marks.put ns[k] := by
  have e : ∀ (a : List Int) (b : Int), putL (a ++ [b]) = putL a ++ Marks.put b := fun a b => by simp [putL]
  rw [List.take_succ_eq_append_getElem hk, e]
theorem putL_len : ∀ (ns : List Int), (putL ns).length ≤ 10 * ns.length
  | [] => by simp [putL]
  | n :: ns => by
    have h1 := putL_len ns
    have h2 := (Marks.put_len n).2
    have e : putL (n :: ns) = Marks.put n ++ putL ns := rfl
    rw [e, List.length_append, List.length_cons]; omega
theorem putL_app (a b : List Int) : putL (a ++ b) = putL a ++ putL b := by simp [putL]
/-- Bytes are answered, with the marks behind them. -/
def BufOut (B : Nat) (w : World) (l : List UInt8) (e : Ending) (w' : World) : Prop := ∃ v, e = .returned v ∧ BufAt B w' v l ∧ Kept B w w'
theorem buf_more {B : Nat} {w : World} {v : Value} {l m : List UInt8} (h : w.ownsRow B 5 1 v (l.length + (str m).size) (l.map bv ++ Lib.strCells (str m))) : BufAt B w v (l ++ m) := by
  unfold BufAt
  rw [str_cells, str_size] at h
  simpa using h

set_option maxRecDepth 100000 in
set_option maxHeartbeats 2000000 in
theorem ints_any {B g off cap : Nat} {w : World} {v : Value} {l : List UInt8} (hv : BufAt B w v l) (hB : B ≤ w.heap.size) (ns : List Int) (hl : l.length + 10 * ns.length ≤ 1000000) (hi64 : ∀ n ∈ ns, -9223372036854775808 ≤ n ∧ n ≤ 9223372036854775807)
    (hg : g < w.heap.size) (hn : NoBytes w g) (hc : ∀ j (h : j < ns.length), w.cell? ⟨g, off + j, none⟩ = some (.int .i64 ns[j])) :
    Calls Tryd.prog 20 #[v, .slice (some ⟨g, off, none⟩) ns.length cap] w (BufOut B w (l ++ putL ns)) := by
  obtain ⟨i0, hi, hz0, hz1, hz2⟩ := info_parts info_u8
  have HC := Lib.hid hc
  have HN := Lib.hid hn
  have HI := Lib.hid hi64
  have HV := Lib.hid hv
  clear hc hn hi64 hv
  go_enter Tryd.func20, Tryd.ntmps20
  go_wp2_with fail
  go_loopw [0, 9] (fun b p wr => ∃ k : Nat, k ≤ ns.length ∧ p = .int .i64 k ∧ BufAt B wr b (l ++ putL (ns.take k)) ∧ Kept B w wr) (fun _ p _ => ns.length - (intOf p).toNat)
  case atStart => exact ⟨0, by omega, rfl, by simpa [putL] using HV.out, Kept.refl _ _⟩
  case round =>
    obtain ⟨k, hk, rfl, hb, hK⟩ := hrel
    have hKs := hK.size
    by_cases hlt : k < ns.length
    · have hx : wr.cell? ⟨g, off + k, none⟩ = some (.int .i64 ns[k]) := (hK.cell (p := ⟨g, off + k, none⟩) hg HN.out).trans (HC.out k hlt)
      have hb64 := HI.out _ (List.getElem_mem hlt)
      have HP := Lib.hid (put_any ns[k] hb64.1 hb64.2)
      have HT := Lib.hid (putL_take ns k hlt)
      have hpl := putL_len (ns.take k)
      rw [List.length_take] at hpl
      have hps : (str (Marks.put ns[k])).size ≤ 10 := by rw [str_size]; exact (Marks.put_len _).2
      have hbl : (l ++ putL (ns.take k)).length ≤ l.length + 10 * k := by rw [List.length_append]; omega
      generalize hm0 : l ++ putL (ns.take k) = m0 at *
      have HM0 := Lib.hid hm0
      have hHB := Lib.hid hb
      generalize ns[k] = n at *
      clear hb hm0
      go_wp2_with fail
      refine (HP.out _).mono ?_
      rintro e w1 ⟨rfl, b1⟩
      have hb1 := buf_below hHB.out b1
      have hK1 := hK.trans (Kept.of_below b1 (by omega))
      have HB1 := Lib.hid hb1
      have hKs1 := hK1.size
      unfold BufAt at hb1
      go_wp2_with (at_builtin; refine Lib.wpList_append_own_string _ rfl _ _ 48 9 rfl B 5 i0 Tryd.underlying48 Tryd.underlying9 hi hz0 hz1 hz2 _ _ _ rfl hb1 _ rfl (by unfold maxLen; omega) (by omega) (by omega) ?_)
      intro v' w2 hown2 hgr _
      have HB2 := Lib.hid (buf_more hown2)
      have hK2 := hK1.trans (kept_append HB1.out hgr (by omega))
      have HE := Lib.hid (show m0 ++ Marks.put n = l ++ putL (ns.take (k + 1)) by rw [HT.out, ← HM0.out, List.append_assoc])
      clear hb1 hown2 hgr
      go_wp2
      go_roundw
      case rel => exact ⟨k + 1, by omega, by go_num, by rw [← HE.out]; exact HB2.out, hK2⟩
      case measure => simp [intOf]; omega
    · obtain rfl : k = ns.length := by omega
      rw [List.take_length] at hb
      have HB2 := Lib.hid hb
      clear hb
      go_wp2
      go_ret
      exact ⟨_, rfl, HB2.out, hK⟩

/-- A slice of ints that was just built. -/
theorem int_no_bytes {w : World} {k : Nat} {cs : Array Value} {fr : Nat × Nat} (h : w.heap[k]? = some (.cells cs 3 fr)) : NoBytes w k := fun cur fr' e => by
  rw [h] at e
  injection e with e1
  injection e1 with _ e2
  exact absurd e2 (by decide)
theorem built (w : World) (ns : List Int) : ∃ w1, w.alloc (.cells (ns.map (Value.int .i64)).toArray 3) = w1 ∧ Below w.heap.size w w1 ∧ w1.heap.size = w.heap.size + 1 ∧ NoBytes w1 w.heap.size ∧ ∀ j (h : j < ns.length), w1.cell? ⟨w.heap.size, 0 + j, none⟩ = some (.int .i64 ns[j]) := by
  refine ⟨_, rfl, (Below.refl _ _).alloc (Nat.le_refl _) _, by simp, int_no_bytes (World.alloc_heap_new w _), fun j hj => ?_⟩
  rw [World.cell?_alloc_mark, Nat.zero_add]
  simp [hj]
theorem buf_alloc {B : Nat} {w : World} {v : Value} {l : List UInt8} (h : BufAt B w v l) (o : Obj) : BufAt B (w.alloc o) v l := World.ownsRow.alloc h o

def Ord.nums (o : Ord) : List Int := [o.id, o.stream, o.expect, o.kind, o.arg]
def OrdOk (o : Ord) : Prop := ∀ n ∈ o.nums, -9223372036854775808 ≤ n ∧ n ≤ 9223372036854775807
def ordCells (o : Ord) : Array Value := #[.int .i64 o.id, .int .i64 o.stream, .int .i64 o.expect, .int .i64 o.kind, .int .i64 o.arg]
theorem ord_cells {w : World} {B : Nat} {o : Ord} {t : TypeId} (h : w.heap[B]? = some (.cells (ordCells o) t (0, 0))) :
    w.cell? ⟨B, 0, none⟩ = some (.int .i64 o.id) ∧ w.cell? ⟨B, 1, none⟩ = some (.int .i64 o.stream) ∧ w.cell? ⟨B, 2, none⟩ = some (.int .i64 o.expect) ∧ w.cell? ⟨B, 3, none⟩ = some (.int .i64 o.kind) ∧ w.cell? ⟨B, 4, none⟩ = some (.int .i64 o.arg) := by
  refine ⟨?_, ?_, ?_, ?_, ?_⟩ <;> simp [World.cell?, h, ordCells]
theorem boxed (w : World) (v : Array Value) (t : TypeId) : ∃ w1, w.alloc (.cells v t) = w1 ∧ Below w.heap.size w w1 ∧ w1.heap.size = w.heap.size + 1 ∧ w1.heap[w.heap.size]? = some (.cells v t (0, 0)) :=
  ⟨_, rfl, (Below.refl _ _).alloc (Nat.le_refl _) _, by simp, World.alloc_heap_new w _⟩

set_option maxRecDepth 100000 in
set_option maxHeartbeats 2000000 in
theorem order_any {B : Nat} {w : World} {v : Value} {l : List UInt8} (hv : BufAt B w v l) (hB : B ≤ w.heap.size) (o : Ord) (ho : OrdOk o) (hl : l.length + 50 ≤ 1000000) :
    Calls Tryd.prog 23 #[v, .agg #[.int .i64 o.id, .int .i64 o.stream, .int .i64 o.expect, .int .i64 o.kind, .int .i64 o.arg]] w (BufOut B w (l ++ putL o.nums)) := by
  obtain ⟨w1, e1, b1, s1, h1⟩ := boxed w (ordCells o) 24
  obtain ⟨w2, e2, b2, s2, n2, c2⟩ := built w1 o.nums
  have hv1 := buf_below hv b1
  have hv2 := buf_below hv1 b2
  have HX := Lib.hid (ints_any hv2 (by omega) o.nums (by show l.length + 10 * 5 ≤ _; omega) ho (g := w1.heap.size) (by omega) n2 c2 (cap := 5))
  rw [s1] at HX
  have E1 := Lib.hid (show w.alloc (.cells #[.int .i64 o.id, .int .i64 o.stream, .int .i64 o.expect, .int .i64 o.kind, .int .i64 o.arg] 24) = w1 from e1)
  have E2 := Lib.hid (show w1.alloc (.cells #[.int .i64 o.id, .int .i64 o.stream, .int .i64 o.expect, .int .i64 o.kind, .int .i64 o.arg] 3) = w2 from e2)
  have hK2 := (Kept.of_below b1 hB).trans (Kept.of_below b2 (by omega))
  obtain ⟨c0, c1, c2', c3, c4⟩ := ord_cells h1
  clear e1 e2 h1 hv1 hv2 n2 c2 hv ho
  go_enter Tryd.func23, Tryd.ntmps23
  go_wp2_with fail
  rw [E1.out]
  go_wp2_with fail
  rw [E2.out]
  refine HX.out.mono ?_
  rintro e w3 ⟨v3, rfl, hb3, hk3⟩
  have H3 := Lib.hid hb3
  clear hb3
  go_wp2
  go_ret
  exact ⟨_, rfl, H3.out, hK2.trans hk3⟩
end Go.Proofs.YtnekpehgaojkaaaDoor
