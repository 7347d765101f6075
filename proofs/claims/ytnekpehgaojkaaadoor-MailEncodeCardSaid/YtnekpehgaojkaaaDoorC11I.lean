/- Copying a list with room behind it, in a region that draws its order: steps. -/
import Derived.Test.YtnekpehgaojkaaaDoorC11z
import Derived.Test.YtnekpehgaojkaaaDoorOpenM
import Derived.Test.YtnekpehgaojkaaaDoorC11o
import Derived.Deep.RegionLaw
import Derived.Laws.AppendOwnNone
import Derived.Laws.MakeOwn
namespace Go.Proofs.YtnekpehgaojkaaaDoor
open Go.RowKit

/-- append to one's own, of what lies somewhere, or of nothing: a step of a region that draws. -/
theorem step_copy {P : Program} {ops : Array Oper} {o : Oper} {a : Act} {w : World} {K : Act → World → Prop} {Q : Exit → Act → World → Prop} {E : Prop}
    (hg : o.guard = none) (s x : Operand) (t : TypeId) (hop : o.op = Op.call { callee := Callee.builtin Builtin.append, args := #[s, x], argTypes := #[t, t] })
    (base : Nat) (e : TypeId) (i : TypeInfo) (z : Value) (size bytes : Nat) (h1 : P.underlying t = some (.slice e)) (h2 : P.info? e = some i) (h3 : i.zero = some z) (h4 : i.size = size) (h5 : i.bytes = bytes) (h6 : z.cells.size = size) (h7 : 0 < size)
    (v : Value) (n : Nat) (xs : List Value) (hs : a.eval s = v) (hown : w.ownsRow base e size v n xs)
    (ao : Option Addr) (m c : Nat) (hx : a.eval x = .slice ao m c) (hnone : ao = none → m = 0 ∧ c = 0) (news : List Value) (hn : news.length = m * size) (hc : ∀ ad, ao = some ad → ∀ j u, news[j]? = some u → w.cell? (ad.add j) = some u) (h1c : ∀ u ∈ news, u.oneCell' = true)
    (b1 : n + m ≤ maxLen) (b2 : (n + m) * bytes ≤ 140737488355328) (hb : base ≤ w.heap.size)
    (hK : ∀ v' w', w'.ownsRow base e size v' (n + m) (xs ++ news) → w.grownBy w' v.ownBlock → K (a.put o.dst v') w') :
    if Region.wanted o (yielded ops a.tmps) = true then Oper.wp P o a w K Q else E := by
  have hw : Region.wanted o (yielded ops a.tmps) = true := by simp [Region.wanted, hg]
  rw [if_pos hw]
  cases ao with
  | some ad =>
    obtain ⟨v', w', hrun, r1, r2, _⟩ := run_append_own (P := P) w base t o.type e i z size bytes h1 h2 h3 h4 h5 h6 h7 v n xs hown ad m c news hn (hc ad rfl) h1c b1 b2 hb
    unfold Oper.wp
    simp [execOp, hop, resolve, invoke, builtin, hs, hx, hrun, Result.andThen]
    exact hK v' w' r1 r2
  | none =>
    obtain ⟨rfl, rfl⟩ := hnone rfl
    obtain rfl : news = [] := List.eq_nil_of_length_eq_zero (by simpa using hn)
    have hrun := run_append_owned_none (P := P) (w := w) base t o.type e i size h1 h2 v n xs hown
    unfold Oper.wp
    simp [execOp, hop, resolve, invoke, builtin, hs, hx, hrun, Result.andThen]
    exact hK v w (by simpa using hown) ⟨rfl, rfl, rfl, Nat.le_refl _, fun _ _ _ => rfl⟩
/-- A list of one's own that is not empty. -/
theorem own_form {B n sz : Nat} {e : TypeId} {w : World} {v : Value} {xs : List Value} (h : w.ownsRow B e sz v (n + 1) xs) : ∃ g cap, v = .slice (some ⟨g, 0, none⟩) (n + 1) cap ∧ (n : Int) ≤ (cap : Int) ∧ (n : Int) + 1 ≤ (cap : Int) ∧ (cap : Int) ≤ 9223372036854775807 := by
  rcases h.2 with ⟨_, h0⟩ | ⟨g, cap, cur, hv, hg, hh, hn, hc, hs, _⟩
  · omega
  · exact ⟨g, cap, hv, by omega, by omega, by unfold maxLen at hc; omega⟩
theorem grown_cell {B n sz : Nat} {e : TypeId} {w w' : World} {v : Value} {xs : List Value} (hown : w.ownsRow B e sz v n xs) (hg : w.grownBy w' v.ownBlock) {p : Addr} (hp : p.block < B) (hpw : p.block < w.heap.size) : w'.cell? p = w.cell? p :=
  World.cell?_of_block (grown_low hown hg hpw hp)
/-- A row built elsewhere stays, when one's own grows. -/
theorem grown_row {B n sz gm cap : Nat} {e : TypeId} {w w' : World} {xs : List Value} (hg : w.grownBy w' (Value.ownBlock (.slice (some ⟨gm, 0, none⟩) n cap))) {b : Nat} (hb : b < w.heap.size) (hne : b ≠ gm) {cs : List Value}
    (hc : ∀ j u, cs[j]? = some u → w.cell? ((⟨b, 0, none⟩ : Addr).add j) = some u) (_h : w.ownsRow B e sz (.slice (some ⟨gm, 0, none⟩) n cap) n xs) : ∀ j u, cs[j]? = some u → w'.cell? ((⟨b, 0, none⟩ : Addr).add j) = some u := by
  intro j u hj
  have hbb : ((⟨b, 0, none⟩ : Addr).add j).block = b := by rw [add_off]
  refine (World.cell?_of_block ?_).trans (hc j u hj)
  rw [hbb]
  exact hg.block b hb (fun e => hne (by simpa [Value.ownBlock] using e))
theorem row_at (w : World) (cs : List Value) (t : TypeId) : ∀ j u, cs[j]? = some u → (w.alloc (.cells cs.toArray t)).cell? ((⟨w.heap.size, 0, none⟩ : Addr).add j) = some u := by
  intro j u hj
  rw [add_off, Nat.zero_add]
  have := World.alloc_heap_new w (.cells cs.toArray t)
  simp only [World.cell?, this]
  simpa using hj
/-- What stands at an address, entry by entry, as cells. -/
theorem ents_src {w : World} {b off : Nat} : ∀ (es : List Ent) (k : Nat), (∀ j (h : j < es.length), entAt w b (off + (k + j) * 6) es[j]) → ∀ j u, (entVals es)[j]? = some u → w.cell? ⟨b, off + k * 6 + j, none⟩ = some u
  | [], _, _, j, u, h => by simp [entVals] at h
  | x :: es, k, H, j, u, h => by
    have e0 : entVals (x :: es) = (entCells x).toList ++ entVals es := rfl
    rw [e0] at h
    by_cases hj : j < 6
    · rw [List.getElem?_append_left (by simpa [entCells] using hj)] at h
      obtain ⟨h0, h1, h2, h3, h4, h5⟩ := H 0 (by simp)
      simp only [List.getElem_cons_zero, Nat.add_zero] at h0 h1 h2 h3 h4 h5
      match j, hj with
      | 0, _ => simp [entCells] at h; rw [← h]; exact h0
      | 1, _ => simp [entCells] at h; rw [← h]; exact h1
      | 2, _ => simp [entCells] at h; rw [← h]; exact h2
      | 3, _ => simp [entCells] at h; rw [← h]; exact h3
      | 4, _ => simp [entCells] at h; rw [← h]; exact h4
      | 5, _ => simp [entCells] at h; rw [← h]; exact h5
    · rw [List.getElem?_append_right (by simp [entCells]; omega)] at h
      have hl : (entCells x).toList.length = 6 := rfl
      rw [hl] at h
      have := ents_src es (k + 1) (fun i hi => by
        have := H (i + 1) (by simpa using hi)
        rw [List.getElem_cons_succ] at this
        rwa [show k + 1 + i = k + (i + 1) by omega]) (j - 6) u h
      rwa [show off + (k + 1) * 6 + (j - 6) = off + k * 6 + j by omega] at this
/-- The cells of entries handed in, wherever. -/
theorem ents_hc {B : Nat} {w : World} {ao : Option Addr} {c : Nat} {es : List Ent} (h : EntsAt B w (.slice ao es.length c) es) : ∀ ad, ao = some ad → ∀ j u, (entVals es)[j]? = some u → w.cell? (ad.add j) = some u := by
  intro ad ha j u hj
  obtain ⟨a, cap, hv, hc⟩ := h
  cases hv
  have hne : es ≠ [] := by rintro rfl; simp [entVals] at hj
  obtain ⟨b, off, h1, _, _, h2⟩ := hc hne
  rw [ha] at h1
  cases h1
  rw [add_off]
  have := ents_src (off := off) es 0 (fun i hi => by rw [Nat.zero_add]; exact h2 i hi) j u hj
  simpa using this
theorem entVals_one (es : List Ent) : ∀ u ∈ entVals es, u.oneCell' = true := by
  intro u hu
  obtain ⟨x, _, hx⟩ := List.mem_flatMap.1 hu
  exact ent_one x u hx
/-- make, with no length and some room. -/
theorem make_ents (n : Nat) (hn : n ≤ 1000) : ∃ Z : Array Value, ∀ w : World, (Instr.makeSlice 22 (.int .i64 0) (.int .i64 ((n : Int) + 1))).run Tryd.prog w = .ok (.slice (some ⟨w.heap.size, 0, none⟩) 0 (n + 1)) (w.alloc (.cells Z 30)) ∧
    (w.alloc (.cells Z 30)).ownsRow w.heap.size 30 6 (.slice (some ⟨w.heap.size, 0, none⟩) 0 (n + 1)) 0 [] := by
  obtain ⟨i0, hi, hz0, hz1, hz2⟩ := info_parts info_ent
  refine ⟨madeCells (entCells noEnt) ((n + 1) * 6), fun w => ⟨?_, ?_⟩⟩
  · have h := run_make (P := Tryd.prog) w 22 30 i0 (.agg (entCells noEnt)) Tryd.underlying22 hi hz0 .i64 .i64 0 ((n : Int) + 1) (by omega) (by omega) (by rw [hz2]; omega) (by omega)
    rw [hz1] at h
    have e : ((n : Int) + 1).toNat = n + 1 := by omega
    rw [e] at h
    exact h
  · exact World.ownsRow_made w _ (n + 1) (Nat.le_refl _) (by unfold maxLen; omega) (size_madeCells _ _)
/-- The copy is stored in its field. -/
theorem copy_done {T n cap g sz : Nat} {e t : TypeId} {w3 w : World} {cs : Array Value} {xs : List Value} (hb : Below w3.heap.size w3 w) (hT : T < w3.heap.size) (hrow : w3.heap[T]? = some (.cells cs t (0, 0))) (hown : w.ownsRow w3.heap.size e sz (.slice (some ⟨g, 0, none⟩) n cap) n xs) (k : Nat) (v : Value) :
    (w.setCell ⟨T, k, none⟩ v).heap[T]? = some (.cells (cs.setIfInBounds k v) t (0, 0)) ∧ (w.setCell ⟨T, k, none⟩ v).ownsRow w3.heap.size e sz (.slice (some ⟨g, 0, none⟩) n cap) n xs ∧ Wrote T T w3 (w.setCell ⟨T, k, none⟩ v) := by
  have hr := (hb.block T hT).trans hrow
  rw [setCell_eq_setRow _ T k _ t _ _ hr]
  refine ⟨setRow_heap _ _ _ _ _ _ hr, ?_, ?_⟩
  · refine ⟨hown.1, hown.2.imp_right ?_⟩
    rintro ⟨g', cap', cur, hv, hg', hh, rest⟩
    exact ⟨g', cap', cur, hv, hg', (setRow_other _ _ _ _ (by omega)).trans hh, rest⟩
  · exact ((⟨hb.mono (Nat.zero_le _), fun k hk _ _ => hb.block k hk⟩ : Wrote T T w3 w)).row (.inl rfl) _
theorem set_keeps {w : World} {T k R o : Nat} {v u : Value} (h : w.cell? ⟨R, o, none⟩ = some u) (hne : R ≠ T) : (w.setCell ⟨T, k, none⟩ v).cell? ⟨R, o, none⟩ = some u :=
  (World.cell?_of_block (w := w) (a := ⟨R, o, none⟩) (Below.heap_setCell _ _ _ _ (by exact hne))).trans h
/-- The copy, without what stands behind it. -/
theorem owns_prefix {B n sz cap : Nat} {e : TypeId} {w : World} {a : Option Addr} {xs ys : List Value} (h : w.ownsRow B e sz (.slice a (n + 1) cap) (n + 1) (xs ++ ys)) (hx : xs.length = n * sz) (_hy : ys.length = sz) : w.ownsRow B e sz (.slice a n cap) n xs := by
  rcases h.2 with ⟨_, h0⟩ | ⟨g, cap', cur, hv, hg, hh, hn, hc, hs, ht⟩
  · omega
  · cases hv
    refine ⟨hx, .inr ⟨g, cap, cur, rfl, hg, hh, by omega, hc, hs, ?_⟩⟩
    have := congrArg (List.take (n * sz)) ht
    have e2 : List.take (n * sz) (xs ++ ys) = xs := by rw [← hx]; simp
    rw [List.take_take, Nat.min_eq_left (Nat.mul_le_mul_right _ (Nat.le_succ n)), e2] at this
    exact this
/-- A cell behind the copy. -/
theorem owns_behind {B n sz cap g j : Nat} {e : TypeId} {w : World} {xs ys : List Value} {v : Value} (h : w.ownsRow B e sz (.slice (some ⟨g, 0, none⟩) (n + 1) cap) (n + 1) (xs ++ ys)) (hx : xs.length = n * sz) (hj : ys[j]? = some v) : w.cell? ⟨g, n * sz + j, none⟩ = some v := by
  rcases h.2 with ⟨_, h0⟩ | ⟨g', cap', cur, hv, hg, hh, hn, hc, hs, ht⟩
  · omega
  · cases hv
    have h1 : (cur.toList.take ((n + 1) * sz))[n * sz + j]? = some v := by
      rw [ht, List.getElem?_append_right (by omega), hx, Nat.add_sub_cancel_left]; exact hj
    have hlt : n * sz + j < (n + 1) * sz := by
      have := (List.getElem?_eq_some_iff.1 h1).1
      rw [List.length_take] at this
      omega
    rw [List.getElem?_take_of_lt hlt] at h1
    simp only [World.cell?, hh]
    simpa using h1
/-- One more row, built behind one's own. -/
theorem copy_next {B n sz : Nat} {e t : TypeId} {w0 w : World} {v : Value} {xs : List Value} (h : w.ownsRow B e sz v n xs) (hb : Below B w0 w) (cs : List Value) : ∃ w1, w.alloc (.cells cs.toArray t) = w1 ∧ w1.ownsRow B e sz v n xs ∧ (∀ j u, cs[j]? = some u → w1.cell? ((⟨w.heap.size, 0, none⟩ : Addr).add j) = some u) ∧ (B ≤ w.heap.size → Below B w0 w1) ∧ w1.heap.size = w.heap.size + 1 :=
  ⟨_, rfl, h.alloc _, row_at w cs t, fun hB => hb.alloc hB _, by simp⟩
end Go.Proofs.YtnekpehgaojkaaaDoor
