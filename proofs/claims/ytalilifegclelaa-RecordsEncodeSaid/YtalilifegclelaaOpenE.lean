/- Arguments opened: slices of entries and of spots, records. -/
import Derived.Test.YtalilifegclelaaOpen
import Derived.Test.YtalilifegclelaaC10i
import Derived.Deep.Slices
namespace Go.Proofs.Ytalilifegclelaa
open Go.ChangeShapes Go.WideShapes Go.ChangeAt Go.RowKit

theorem cells_int : Try.prog.cellsOf 3 = 1 := by kernel_rfl
theorem cells_ord : Try.prog.cellsOf 28 = 5 := by kernel_rfl
theorem cells_ent : Try.prog.cellsOf 30 = 6 := by kernel_rfl
theorem cells_spt : Try.prog.cellsOf 32 = 2 := by kernel_rfl
theorem wf_i64 {n : Int} (h : (Lit.int .i64 n).wf = true) : -9223372036854775808 ≤ n ∧ n ≤ 9223372036854775807 := by
  simp only [Lit.wf, Bool.and_eq_true, decide_eq_true_eq] at h
  exact h
theorem list5 {α : Type} {l : List α} (h : l.length = 5) : ∃ a b c d e, l = [a, b, c, d, e] := by
  match l, h with | [a, b, c, d, e], _ => exact ⟨a, b, c, d, e, rfl⟩
theorem list6 {α : Type} {l : List α} (h : l.length = 6) : ∃ a b c d e f, l = [a, b, c, d, e, f] := by
  match l, h with | [a, b, c, d, e, f], _ => exact ⟨a, b, c, d, e, f, rfl⟩
theorem list2 {α : Type} {l : List α} (h : l.length = 2) : ∃ a b, l = [a, b] := by
  match l, h with | [a, b], _ => exact ⟨a, b, rfl⟩
theorem list8 {α : Type} {l : List α} (h : l.length = 8) : ∃ a b c d e f g i, l = [a, b, c, d, e, f, g, i] := by
  match l, h with | [a, b, c, d, e, f, g, i], _ => exact ⟨a, b, c, d, e, f, g, i, rfl⟩
section
variable {H : Type} {enc : TypeId × Value → H} {w : World} {base : Nat} {spare : Nat → Bool} {held : Bool} {fuel : Nat} {cs : List Value} {x : DataW H × List MemPlace}

theorem one_int_cell {c : Value} {y : Option (DataW H × List MemPlace)} (h : DataW.trod enc Try.prog w base spare held fuel 3 [c] = y) (hy : y ≠ none) : ∃ n, c = .int .i64 n ∧ -9223372036854775808 ≤ n ∧ n ≤ 9223372036854775807 := by
  obtain ⟨z, hz⟩ := Option.ne_none_iff_exists'.1 hy
  rw [hz] at h
  obtain ⟨n, h1, _, h3⟩ := DataW.trod_int Try.underlying3 h
  simp only [List.cons.injEq, and_true] at h1
  exact ⟨n, h1, wf_i64 h3⟩
theorem open_ord (h : DataW.trod enc Try.prog w base spare held fuel 28 cs = some x) : ∃ o : Ord, cs = (ordCells o).toList ∧ OrdOk o := by
  obtain ⟨xs, n, rfl, rfl, hl, hlen, hf⟩ := DataW.trod_struct Try.underlying28 h
  rw [cells_ord] at hl
  obtain ⟨a, b, c, d, e, rfl⟩ := list5 hl
  obtain ⟨y0, y1, y2, y3, y4, rfl⟩ := list5 (l := xs) hlen
  have h0 : DataW.trod enc Try.prog w _ _ _ n 3 (List.take (Try.prog.cellsOf 3) (List.drop 0 [a, b, c, d, e])) = some y0 := hf 0 _ rfl
  have h1 : DataW.trod enc Try.prog w _ _ _ n 3 (List.take (Try.prog.cellsOf 3) (List.drop 1 [a, b, c, d, e])) = some y1 := hf 1 _ rfl
  have h2 : DataW.trod enc Try.prog w _ _ _ n 3 (List.take (Try.prog.cellsOf 3) (List.drop 2 [a, b, c, d, e])) = some y2 := hf 2 _ rfl
  have h3 : DataW.trod enc Try.prog w _ _ _ n 3 (List.take (Try.prog.cellsOf 3) (List.drop 3 [a, b, c, d, e])) = some y3 := hf 3 _ rfl
  have h4 : DataW.trod enc Try.prog w _ _ _ n 3 (List.take (Try.prog.cellsOf 3) (List.drop 4 [a, b, c, d, e])) = some y4 := hf 4 _ rfl
  rw [cells_int] at h0 h1 h2 h3 h4
  obtain ⟨n0, rfl, b0⟩ := one_int_cell h0 (by simp)
  obtain ⟨n1, rfl, b1⟩ := one_int_cell h1 (by simp)
  obtain ⟨n2, rfl, b2⟩ := one_int_cell h2 (by simp)
  obtain ⟨n3, rfl, b3⟩ := one_int_cell h3 (by simp)
  obtain ⟨n4, rfl, b4⟩ := one_int_cell h4 (by simp)
  refine ⟨⟨n0, n1, n2, n3, n4⟩, rfl, fun n hn => ?_⟩
  simp only [Ord.nums, List.mem_cons, List.not_mem_nil, or_false] at hn
  rcases hn with rfl | rfl | rfl | rfl | rfl <;> assumption
theorem open_ent (h : DataW.trod enc Try.prog w base spare held fuel 30 cs = some x) : ∃ e : Ent, cs = (entCells e).toList ∧ EntOk e := by
  obtain ⟨xs, n, rfl, rfl, hl, hlen, hf⟩ := DataW.trod_struct Try.underlying30 h
  rw [cells_ent] at hl
  obtain ⟨a, b, c, d, e, f, rfl⟩ := list6 hl
  obtain ⟨y0, y1, rfl⟩ := list2 (l := xs) hlen
  have h0 : DataW.trod enc Try.prog w _ _ _ n 3 (List.take (Try.prog.cellsOf 3) (List.drop 0 [a, b, c, d, e, f])) = some y0 := hf 0 _ rfl
  have h1 : DataW.trod enc Try.prog w _ _ _ n 28 (List.take (Try.prog.cellsOf 28) (List.drop 1 [a, b, c, d, e, f])) = some y1 := hf 1 _ rfl
  rw [cells_int] at h0
  rw [cells_ord] at h1
  obtain ⟨n0, rfl, b0⟩ := one_int_cell h0 (by simp)
  obtain ⟨o, ho, hok⟩ := open_ord (x := y1) h1
  simp only [List.drop_succ_cons, List.drop_zero, List.take_succ_cons, List.take_zero, ordCells] at ho
  simp only [List.cons.injEq, and_true] at ho
  obtain ⟨rfl, rfl, rfl, rfl, rfl⟩ := ho
  refine ⟨⟨n0, o⟩, rfl, fun n hn => ?_⟩
  rcases List.mem_cons.1 hn with rfl | hn
  · exact b0
  · exact hok n hn
theorem open_spt (h : DataW.trod enc Try.prog w base spare held fuel 32 cs = some x) : ∃ e : Spt, cs = (sptCells e).toList ∧ SptOk e := by
  obtain ⟨xs, n, rfl, rfl, hl, hlen, hf⟩ := DataW.trod_struct Try.underlying32 h
  rw [cells_spt] at hl
  obtain ⟨a, b, rfl⟩ := list2 hl
  obtain ⟨y0, y1, rfl⟩ := list2 (l := xs) hlen
  have h0 : DataW.trod enc Try.prog w _ _ _ n 3 (List.take (Try.prog.cellsOf 3) (List.drop 0 [a, b])) = some y0 := hf 0 _ rfl
  have h1 : DataW.trod enc Try.prog w _ _ _ n 3 (List.take (Try.prog.cellsOf 3) (List.drop 1 [a, b])) = some y1 := hf 1 _ rfl
  rw [cells_int] at h0 h1
  obtain ⟨n0, rfl, b0⟩ := one_int_cell h0 (by simp)
  obtain ⟨n1, rfl, b1⟩ := one_int_cell h1 (by simp)
  refine ⟨⟨n0, n1⟩, rfl, fun n hn => ?_⟩
  simp only [Spt.nums, List.mem_cons, List.not_mem_nil, or_false] at hn
  rcases hn with rfl | rfl <;> assumption
end

instance : Inhabited Ent := ⟨⟨0, ⟨0, 0, 0, 0, 0⟩⟩⟩
instance : Inhabited Spt := ⟨⟨0, 0⟩⟩
/-- A slice value's own bounds. -/
def SlOk (v : Value) : Prop := ∀ a n c, v = .slice a n c → n ≤ c ∧ c ≤ maxLen ∧ (a = none → c = 0)
def EntsIn (w : World) (v : Value) (es : List Ent) : Prop := EntsAt w.heap.size w v es ∧ SlOk v ∧ EntsOk es
def SptsIn (w : World) (v : Value) (fs : List Spt) : Prop := SptsAt w.heap.size w v fs ∧ SlOk v ∧ SptsOk fs

theorem add_off {b off : Nat} {n : Nat} : (⟨b, off, none⟩ : Addr).add n = ⟨b, off + n, none⟩ := by
  unfold Addr.add; split <;> simp_all

theorem ents_cells {H : Type} {enc : TypeId × Value → H} {w : World} {fuel : Nat} {v : Value} {x : DataW H × List MemPlace} (h : DataW.trod enc Try.prog w 0 (fun _ => true) true fuel 22 [v] = some x) : ∃ es : List Ent, EntsIn w v es := by
  rcases Go.Deep.open_slice Try.underlying22 h with ⟨h0, _⟩ | ⟨a, len, cap, m, n, D, Pl, h0, _, hl, hm, hmm, _, hx⟩
  · simp only [List.cons.injEq, and_true] at h0
    subst h0
    exact ⟨[], ⟨none, 0, rfl, fun h => absurd rfl h⟩, fun a n c h => by cases h; exact ⟨Nat.le_refl _, Nat.zero_le _, fun _ => rfl⟩, by simp [EntsOk]⟩
  · simp only [List.cons.injEq, and_true] at h0
    subst h0
    simp only [if_true] at hmm
    subst hmm
    obtain ⟨F, hF⟩ := Go.Deep.choose_lt (α := Ent) (p := fun i e => w.cells? 0 (a.add (i * 6)) 6 = some (entCells e).toList ∧ EntOk e) (n := m) (fun i hi => by
      obtain ⟨cs', h1, h2⟩ := hx i hi
      obtain ⟨e, rfl, he⟩ := open_ent h2
      exact ⟨e, by rw [cells_ent] at h1; exact h1, he⟩)
    refine ⟨(List.range len).map F, ⟨some a, m, by simp, fun hne => ?_⟩, fun a' n' c' h => by cases h; exact ⟨hl, hm, fun h => by cases h⟩, fun e he => ?_⟩
    · have hpos : 0 < len := by
        rcases Nat.eq_zero_or_pos len with h0 | h0
        · subst h0; simp at hne
        · omega
      have hcell : ∀ i, i < len → ∀ j v, (entCells (F i)).toList[j]? = some v → w.cell? ((a.add (i * 6)).add j) = some v := fun i hi j v hj => by
        obtain ⟨h1, _⟩ := hF i (by omega)
        obtain ⟨_, h2, h3⟩ := World.cells?_some h1
        have hj6 : j < 6 := by
          have := (List.getElem?_eq_some_iff.1 hj).1
          simpa [entCells] using this
        rw [h3 j hj6, hj]
      obtain ⟨b, off, spot⟩ := a
      have hspot : spot = none := by
        have := World.cell?_spot (hcell 0 hpos 0 _ rfl)
        simpa [Addr.add] using this
      subst hspot
      have hcell' : ∀ i, i < len → ∀ j v, (entCells (F i)).toList[j]? = some v → w.cell? ⟨b, off + i * 6 + j, none⟩ = some v := fun i hi j v hj => by
        have := hcell i hi j v hj
        rwa [add_off, add_off] at this
      refine ⟨b, off, rfl, block_of_cell (hcell' 0 hpos 0 _ rfl), .inl (block_of_cell (hcell' 0 hpos 0 _ rfl)), fun j hj => ?_⟩
      rw [List.length_map, List.length_range] at hj
      rw [List.getElem_map, List.getElem_range]
      exact ⟨hcell' j hj 0 _ rfl, hcell' j hj 1 _ rfl, hcell' j hj 2 _ rfl, hcell' j hj 3 _ rfl, hcell' j hj 4 _ rfl, hcell' j hj 5 _ rfl⟩
    · obtain ⟨i, hi, rfl⟩ := List.mem_map.1 he
      exact (hF i (by have := List.mem_range.1 hi; omega)).2
theorem spts_cells {H : Type} {enc : TypeId × Value → H} {w : World} {fuel : Nat} {v : Value} {x : DataW H × List MemPlace} (h : DataW.trod enc Try.prog w 0 (fun _ => true) true fuel 23 [v] = some x) : ∃ es : List Spt, SptsIn w v es := by
  rcases Go.Deep.open_slice Try.underlying23 h with ⟨h0, _⟩ | ⟨a, len, cap, m, n, D, Pl, h0, _, hl, hm, hmm, _, hx⟩
  · simp only [List.cons.injEq, and_true] at h0
    subst h0
    exact ⟨[], ⟨none, 0, rfl, fun h => absurd rfl h⟩, fun a n c h => by cases h; exact ⟨Nat.le_refl _, Nat.zero_le _, fun _ => rfl⟩, by simp [SptsOk]⟩
  · simp only [List.cons.injEq, and_true] at h0
    subst h0
    simp only [if_true] at hmm
    subst hmm
    obtain ⟨F, hF⟩ := Go.Deep.choose_lt (α := Spt) (p := fun i e => w.cells? 0 (a.add (i * 2)) 2 = some (sptCells e).toList ∧ SptOk e) (n := m) (fun i hi => by
      obtain ⟨cs', h1, h2⟩ := hx i hi
      obtain ⟨e, rfl, he⟩ := open_spt h2
      exact ⟨e, by rw [cells_spt] at h1; exact h1, he⟩)
    refine ⟨(List.range len).map F, ⟨some a, m, by simp, fun hne => ?_⟩, fun a' n' c' h => by cases h; exact ⟨hl, hm, fun h => by cases h⟩, fun e he => ?_⟩
    · have hpos : 0 < len := by
        rcases Nat.eq_zero_or_pos len with h0 | h0
        · subst h0; simp at hne
        · omega
      have hcell : ∀ i, i < len → ∀ j v, (sptCells (F i)).toList[j]? = some v → w.cell? ((a.add (i * 2)).add j) = some v := fun i hi j v hj => by
        obtain ⟨h1, _⟩ := hF i (by omega)
        obtain ⟨_, h2, h3⟩ := World.cells?_some h1
        have hj6 : j < 2 := by
          have := (List.getElem?_eq_some_iff.1 hj).1
          simpa [sptCells] using this
        rw [h3 j hj6, hj]
      obtain ⟨b, off, spot⟩ := a
      have hspot : spot = none := by
        have := World.cell?_spot (hcell 0 hpos 0 _ rfl)
        simpa [Addr.add] using this
      subst hspot
      have hcell' : ∀ i, i < len → ∀ j v, (sptCells (F i)).toList[j]? = some v → w.cell? ⟨b, off + i * 2 + j, none⟩ = some v := fun i hi j v hj => by
        have := hcell i hi j v hj
        rwa [add_off, add_off] at this
      refine ⟨b, off, rfl, block_of_cell (hcell' 0 hpos 0 _ rfl), .inl (block_of_cell (hcell' 0 hpos 0 _ rfl)), fun j hj => ?_⟩
      rw [List.length_map, List.length_range] at hj
      rw [List.getElem_map, List.getElem_range]
      exact ⟨hcell' j hj 0 _ rfl, hcell' j hj 1 _ rfl⟩
    · obtain ⟨i, hi, rfl⟩ := List.mem_map.1 he
      exact (hF i (by have := List.mem_range.1 hi; omega)).2

/-- An argument that is a slice of entries. -/
theorem open_entsAt {H : Type} {enc : TypeId × Value → H} {w : World} {r : Reach} {base : Nat} {v : Value} {d : DataW H} {ps : List MemPlace}
    (hval : Value.okWide Try.prog w r base 22 v) (h : DataW.Trod enc Try.prog w 0 (fun _ => true) true 22 v d ps) : ∃ es : List Ent, EntsIn w v es := by
  obtain ⟨a0, len, cap, rfl⟩ := okWide_slice Try.underlying22 hval
  obtain ⟨fuel, hf⟩ := h
  exact ents_cells hf

/-- A record, of these numbers, entries and spots. -/
def RecIn (w : World) (v : Value) (n : RNum) (es : List Ent) (fs : List Spt) : Prop := ∃ ve vf, v = .agg (recCells n ve vf) ∧ RNumOk n ∧ EntsIn w ve es ∧ SptsIn w vf fs
/-- An argument that is a record. -/
theorem open_rec {H : Type} {enc : TypeId × Value → H} {w : World} {base : Nat} {v : Value} {d : DataW H} {ps : List MemPlace}
    (hval : Value.okWide Try.prog w .any base 25 v) (h : DataW.Trod enc Try.prog w 0 (fun _ => true) true 25 v d ps) : ∃ n es fs, RecIn w v n es fs := by
  obtain ⟨cs, rfl, hz, _⟩ := open_agg (ts := [3, 3, 3, 3, 3, 3, 22, 23]) (.inl ⟨_, Try.underlying25⟩) (by kernel_rfl) (by kernel_rfl) hval
  obtain ⟨fuel, hf0⟩ := h
  obtain ⟨xs, n, rfl, _, _, hlen, hf⟩ := DataW.trod_struct Try.underlying25 hf0
  obtain ⟨l⟩ := cs
  obtain ⟨a, b, c, d, e, f, g, i, rfl⟩ := list8 (l := l) hz
  obtain ⟨y0, y1, y2, y3, y4, y5, y6, y7, rfl⟩ := list8 (l := xs) hlen
  have h0 : DataW.trod enc Try.prog w _ _ _ n 3 (List.take (Try.prog.cellsOf 3) (List.drop 0 [a, b, c, d, e, f, g, i])) = some y0 := hf 0 _ rfl
  have h1 : DataW.trod enc Try.prog w _ _ _ n 3 (List.take (Try.prog.cellsOf 3) (List.drop 1 [a, b, c, d, e, f, g, i])) = some y1 := hf 1 _ rfl
  have h2 : DataW.trod enc Try.prog w _ _ _ n 3 (List.take (Try.prog.cellsOf 3) (List.drop 2 [a, b, c, d, e, f, g, i])) = some y2 := hf 2 _ rfl
  have h3 : DataW.trod enc Try.prog w _ _ _ n 3 (List.take (Try.prog.cellsOf 3) (List.drop 3 [a, b, c, d, e, f, g, i])) = some y3 := hf 3 _ rfl
  have h4 : DataW.trod enc Try.prog w _ _ _ n 3 (List.take (Try.prog.cellsOf 3) (List.drop 4 [a, b, c, d, e, f, g, i])) = some y4 := hf 4 _ rfl
  have h5 : DataW.trod enc Try.prog w _ _ _ n 3 (List.take (Try.prog.cellsOf 3) (List.drop 5 [a, b, c, d, e, f, g, i])) = some y5 := hf 5 _ rfl
  have h6 : DataW.trod enc Try.prog w _ _ _ n 22 (List.take (Try.prog.cellsOf 22) (List.drop 6 [a, b, c, d, e, f, g, i])) = some y6 := hf 6 _ rfl
  have h7 : DataW.trod enc Try.prog w _ _ _ n 23 (List.take (Try.prog.cellsOf 23) (List.drop 7 [a, b, c, d, e, f, g, i])) = some y7 := hf 7 _ rfl
  rw [cells_int] at h0 h1 h2 h3 h4 h5
  rw [show Try.prog.cellsOf 22 = 1 by kernel_rfl] at h6
  rw [show Try.prog.cellsOf 23 = 1 by kernel_rfl] at h7
  obtain ⟨n0, rfl, b0⟩ := one_int_cell h0 (by simp)
  obtain ⟨n1, rfl, b1⟩ := one_int_cell h1 (by simp)
  obtain ⟨n2, rfl, b2⟩ := one_int_cell h2 (by simp)
  obtain ⟨n3, rfl, b3⟩ := one_int_cell h3 (by simp)
  obtain ⟨n4, rfl, b4⟩ := one_int_cell h4 (by simp)
  obtain ⟨n5, rfl, b5⟩ := one_int_cell h5 (by simp)
  obtain ⟨es, hes⟩ := ents_cells (x := y6) h6
  obtain ⟨fs, hfs⟩ := spts_cells (x := y7) h7
  refine ⟨⟨n0, n1, n2, n3, n4, n5⟩, es, fs, g, i, rfl, fun n hn => ?_, hes, hfs⟩
  simp only [RNum.nums, List.mem_cons, List.not_mem_nil, or_false] at hn
  rcases hn with rfl | rfl | rfl | rfl | rfl | rfl <;> assumption
end Go.Proofs.Ytalilifegclelaa
