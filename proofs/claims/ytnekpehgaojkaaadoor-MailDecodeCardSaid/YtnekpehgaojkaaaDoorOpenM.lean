/- Arguments opened: slices of entries, messages. (Printed by wip/src/XOpenM.py.) -/
import Derived.Test.YtnekpehgaojkaaaDoorOpen
import Derived.Test.YtnekpehgaojkaaaDoorC11i
import Derived.Deep.Slices
namespace Go.Proofs.YtnekpehgaojkaaaDoor
open Go.ChangeShapes Go.WideShapes Go.ChangeAt Go.RowKit

theorem cells_int : Tryd.prog.cellsOf 3 = 1 := by kernel_rfl
theorem cells_ord : Tryd.prog.cellsOf 24 = 5 := by kernel_rfl
theorem cells_ent : Tryd.prog.cellsOf 30 = 6 := by kernel_rfl
theorem wf_i64 {n : Int} (h : (Lit.int .i64 n).wf = true) : -9223372036854775808 ≤ n ∧ n ≤ 9223372036854775807 := by
  simp only [Lit.wf, Bool.and_eq_true, decide_eq_true_eq] at h
  exact h
theorem list5 {α : Type} {l : List α} (h : l.length = 5) : ∃ a b c d e, l = [a, b, c, d, e] := by
  match l, h with | [a, b, c, d, e], _ => exact ⟨a, b, c, d, e, rfl⟩
theorem list6 {α : Type} {l : List α} (h : l.length = 6) : ∃ a b c d e f, l = [a, b, c, d, e, f] := by
  match l, h with | [a, b, c, d, e, f], _ => exact ⟨a, b, c, d, e, f, rfl⟩
theorem list2 {α : Type} {l : List α} (h : l.length = 2) : ∃ a b, l = [a, b] := by
  match l, h with | [a, b], _ => exact ⟨a, b, rfl⟩
theorem list8 {α : Type} {l : List α} (h : l.length = 8) : ∃ a b c d e f g i, l = [a, b, c, d, e, f, g, i] := by
  match l, h with | [a, b, c, d, e, f, g, i], _ => exact ⟨a, b, c, d, e, f, g, i, rfl⟩
section
variable {H : Type} {enc : TypeId × Value → H} {w : World} {base : Nat} {spare : Nat → Bool} {held : Bool} {fuel : Nat} {cs : List Value} {x : DataW H × List MemPlace}

theorem one_int_cell {c : Value} {y : Option (DataW H × List MemPlace)} (h : DataW.trod enc Tryd.prog w base spare held fuel 3 [c] = y) (hy : y ≠ none) : ∃ n, c = .int .i64 n ∧ -9223372036854775808 ≤ n ∧ n ≤ 9223372036854775807 := by
  obtain ⟨z, hz⟩ := Option.ne_none_iff_exists'.1 hy
  rw [hz] at h
  obtain ⟨n, h1, _, h3⟩ := DataW.trod_int Tryd.underlying3 h
  simp only [List.cons.injEq, and_true] at h1
  exact ⟨n, h1, wf_i64 h3⟩
theorem open_ord (h : DataW.trod enc Tryd.prog w base spare held fuel 24 cs = some x) : ∃ o : Ord, cs = (ordCells o).toList ∧ OrdOk o := by
  obtain ⟨xs, n, rfl, rfl, hl, hlen, hf⟩ := DataW.trod_struct Tryd.underlying24 h
  rw [cells_ord] at hl
  obtain ⟨a, b, c, d, e, rfl⟩ := list5 hl
  obtain ⟨y0, y1, y2, y3, y4, rfl⟩ := list5 (l := xs) hlen
  have h0 : DataW.trod enc Tryd.prog w _ _ _ n 3 (List.take (Tryd.prog.cellsOf 3) (List.drop 0 [a, b, c, d, e])) = some y0 := hf 0 _ rfl
  have h1 : DataW.trod enc Tryd.prog w _ _ _ n 3 (List.take (Tryd.prog.cellsOf 3) (List.drop 1 [a, b, c, d, e])) = some y1 := hf 1 _ rfl
  have h2 : DataW.trod enc Tryd.prog w _ _ _ n 3 (List.take (Tryd.prog.cellsOf 3) (List.drop 2 [a, b, c, d, e])) = some y2 := hf 2 _ rfl
  have h3 : DataW.trod enc Tryd.prog w _ _ _ n 3 (List.take (Tryd.prog.cellsOf 3) (List.drop 3 [a, b, c, d, e])) = some y3 := hf 3 _ rfl
  have h4 : DataW.trod enc Tryd.prog w _ _ _ n 3 (List.take (Tryd.prog.cellsOf 3) (List.drop 4 [a, b, c, d, e])) = some y4 := hf 4 _ rfl
  rw [cells_int] at h0 h1 h2 h3 h4
  obtain ⟨n0, rfl, b0⟩ := one_int_cell h0 (by simp)
  obtain ⟨n1, rfl, b1⟩ := one_int_cell h1 (by simp)
  obtain ⟨n2, rfl, b2⟩ := one_int_cell h2 (by simp)
  obtain ⟨n3, rfl, b3⟩ := one_int_cell h3 (by simp)
  obtain ⟨n4, rfl, b4⟩ := one_int_cell h4 (by simp)
  refine ⟨⟨n0, n1, n2, n3, n4⟩, rfl, fun n hn => ?_⟩
  simp only [Ord.nums, List.mem_cons, List.not_mem_nil, or_false] at hn
  rcases hn with rfl | rfl | rfl | rfl | rfl <;> assumption
theorem open_ent (h : DataW.trod enc Tryd.prog w base spare held fuel 30 cs = some x) : ∃ e : Ent, cs = (entCells e).toList ∧ EntOk e := by
  obtain ⟨xs, n, rfl, rfl, hl, hlen, hf⟩ := DataW.trod_struct Tryd.underlying30 h
  rw [cells_ent] at hl
  obtain ⟨a, b, c, d, e, f, rfl⟩ := list6 hl
  obtain ⟨y0, y1, rfl⟩ := list2 (l := xs) hlen
  have h0 : DataW.trod enc Tryd.prog w _ _ _ n 3 (List.take (Tryd.prog.cellsOf 3) (List.drop 0 [a, b, c, d, e, f])) = some y0 := hf 0 _ rfl
  have h1 : DataW.trod enc Tryd.prog w _ _ _ n 24 (List.take (Tryd.prog.cellsOf 24) (List.drop 1 [a, b, c, d, e, f])) = some y1 := hf 1 _ rfl
  rw [cells_int] at h0
  rw [cells_ord] at h1
  obtain ⟨n0, rfl, b0⟩ := one_int_cell h0 (by simp)
  obtain ⟨o, ho, hok⟩ := open_ord (x := y1) h1
  simp only [List.drop_succ_cons, List.drop_zero, List.take_succ_cons, List.take_zero, ordCells] at ho
  simp only [List.cons.injEq, and_true] at ho
  obtain ⟨rfl, rfl, rfl, rfl, rfl⟩ := ho
  refine ⟨⟨n0, o⟩, rfl, fun n hn => ?_⟩
  rcases List.mem_cons.1 hn with rfl | hn
  · exact b0
  · exact hok n hn
end

instance : Inhabited Ent := ⟨⟨0, ⟨0, 0, 0, 0, 0⟩⟩⟩
/-- A slice value's own bounds. -/
def SlOk (v : Value) : Prop := ∀ a n c, v = .slice a n c → n ≤ c ∧ c ≤ maxLen ∧ (a = none → c = 0)
def EntsIn (w : World) (v : Value) (es : List Ent) : Prop := EntsAt w.heap.size w v es ∧ SlOk v ∧ EntsOk es
theorem add_off {b off : Nat} {n : Nat} : (⟨b, off, none⟩ : Addr).add n = ⟨b, off + n, none⟩ := by
  unfold Addr.add; split <;> simp_all

theorem ents_cells {H : Type} {enc : TypeId × Value → H} {w : World} {fuel : Nat} {v : Value} {x : DataW H × List MemPlace} (h : DataW.trod enc Tryd.prog w 0 (fun _ => true) true fuel 22 [v] = some x) : ∃ es : List Ent, EntsIn w v es := by
  rcases Go.Deep.open_slice Tryd.underlying22 h with ⟨h0, _⟩ | ⟨a, len, cap, m, n, D, Pl, h0, _, hl, hm, hmm, _, hx⟩
  · simp only [List.cons.injEq, and_true] at h0
    subst h0
    exact ⟨[], ⟨none, 0, rfl, fun h => absurd rfl h⟩, fun a n c h => by cases h; exact ⟨Nat.le_refl _, Nat.zero_le _, fun _ => rfl⟩, by simp [EntsOk]⟩
  · simp only [List.cons.injEq, and_true] at h0
    subst h0
    simp only [if_true] at hmm
    subst hmm
    obtain ⟨F, hF⟩ := Go.Deep.choose_lt (α := Ent) (p := fun i e => w.cells? 0 (a.add (i * 6)) 6 = some (entCells e).toList ∧ EntOk e) (n := m) (fun i hi => by
      obtain ⟨cs', h1, h2⟩ := hx i hi
      obtain ⟨e, rfl, he⟩ := open_ent h2
      exact ⟨e, by rw [cells_ent] at h1; exact h1, he⟩)
    refine ⟨(List.range len).map F, ⟨some a, m, by simp, fun hne => ?_⟩, fun a' n' c' h => by cases h; exact ⟨hl, hm, fun h => by cases h⟩, fun e he => ?_⟩
    · have hpos : 0 < len := by
        rcases Nat.eq_zero_or_pos len with h0 | h0
        · subst h0; simp at hne
        · omega
      have hcell : ∀ i, i < len → ∀ j v, (entCells (F i)).toList[j]? = some v → w.cell? ((a.add (i * 6)).add j) = some v := fun i hi j v hj => by
        obtain ⟨h1, _⟩ := hF i (by omega)
        obtain ⟨_, h2, h3⟩ := World.cells?_some h1
        have hj6 : j < 6 := by
          have := (List.getElem?_eq_some_iff.1 hj).1
          simpa [entCells] using this
        rw [h3 j hj6, hj]
      obtain ⟨b, off, spot⟩ := a
      have hspot : spot = none := by
        have := World.cell?_spot (hcell 0 hpos 0 _ rfl)
        simpa [Addr.add] using this
      subst hspot
      have hcell' : ∀ i, i < len → ∀ j v, (entCells (F i)).toList[j]? = some v → w.cell? ⟨b, off + i * 6 + j, none⟩ = some v := fun i hi j v hj => by
        have := hcell i hi j v hj
        rwa [add_off, add_off] at this
      refine ⟨b, off, rfl, block_of_cell (hcell' 0 hpos 0 _ rfl), .inl (block_of_cell (hcell' 0 hpos 0 _ rfl)), fun j hj => ?_⟩
      rw [List.length_map, List.length_range] at hj
      rw [List.getElem_map, List.getElem_range]
      exact ⟨hcell' j hj 0 _ rfl, hcell' j hj 1 _ rfl, hcell' j hj 2 _ rfl, hcell' j hj 3 _ rfl, hcell' j hj 4 _ rfl, hcell' j hj 5 _ rfl⟩
    · obtain ⟨i, hi, rfl⟩ := List.mem_map.1 he
      exact (hF i (by have := List.mem_range.1 hi; omega)).2
/-- An argument that is a slice of entries. -/
theorem open_entsAt {H : Type} {enc : TypeId × Value → H} {w : World} {r : Reach} {base : Nat} {v : Value} {d : DataW H} {ps : List MemPlace}
    (hval : Value.okWide Tryd.prog w r base 22 v) (h : DataW.Trod enc Tryd.prog w 0 (fun _ => true) true 22 v d ps) : ∃ es : List Ent, EntsIn w v es := by
  obtain ⟨a0, len, cap, rfl⟩ := okWide_slice Tryd.underlying22 hval
  obtain ⟨fuel, hf⟩ := h
  exact ents_cells hf

theorem list3 {α : Type} {l : List α} (h : l.length = 3) : ∃ x0 x1 x2, l = [x0, x1, x2] := by
  match l, h with | [x0, x1, x2], _ => exact ⟨x0, x1, x2, rfl⟩
theorem list12 {α : Type} {l : List α} (h : l.length = 12) : ∃ x0 x1 x2 x3 x4 x5 x6 x7 x8 x9 x10 x11, l = [x0, x1, x2, x3, x4, x5, x6, x7, x8, x9, x10, x11] := by
  match l, h with | [x0, x1, x2, x3, x4, x5, x6, x7, x8, x9, x10, x11], _ => exact ⟨x0, x1, x2, x3, x4, x5, x6, x7, x8, x9, x10, x11, rfl⟩
theorem list18 {α : Type} {l : List α} (h : l.length = 18) : ∃ x0 x1 x2 x3 x4 x5 x6 x7 x8 x9 x10 x11 x12 x13 x14 x15 x16 x17, l = [x0, x1, x2, x3, x4, x5, x6, x7, x8, x9, x10, x11, x12, x13, x14, x15, x16, x17] := by
  match l, h with | [x0, x1, x2, x3, x4, x5, x6, x7, x8, x9, x10, x11, x12, x13, x14, x15, x16, x17], _ => exact ⟨x0, x1, x2, x3, x4, x5, x6, x7, x8, x9, x10, x11, x12, x13, x14, x15, x16, x17, rfl⟩

theorem open_ans {H : Type} {enc : TypeId × Value → H} {w : World} {base : Nat} {spare : Nat → Bool} {held : Bool} {fuel : Nat} {cs : List Value} {x : DataW H × List MemPlace} (h : DataW.trod enc Tryd.prog w base spare held fuel 26 cs = some x) : ∃ o : Ans, cs = (ansCells o).toList ∧ AnsOk o := by
  obtain ⟨xs, n, rfl, rfl, hl, hlen, hf⟩ := DataW.trod_struct Tryd.underlying26 h
  rw [show Tryd.prog.cellsOf 26 = 3 by kernel_rfl] at hl
  obtain ⟨a, b, c, rfl⟩ := list3 hl
  obtain ⟨y0, y1, y2, rfl⟩ := list3 (l := xs) hlen
  have h0 : DataW.trod enc Tryd.prog w _ _ _ n 3 (List.take (Tryd.prog.cellsOf 3) (List.drop 0 [a, b, c])) = some y0 := hf 0 _ rfl
  have h1 : DataW.trod enc Tryd.prog w _ _ _ n 3 (List.take (Tryd.prog.cellsOf 3) (List.drop 1 [a, b, c])) = some y1 := hf 1 _ rfl
  have h2 : DataW.trod enc Tryd.prog w _ _ _ n 3 (List.take (Tryd.prog.cellsOf 3) (List.drop 2 [a, b, c])) = some y2 := hf 2 _ rfl
  rw [cells_int] at h0 h1 h2
  obtain ⟨n0, rfl, b0⟩ := one_int_cell h0 (by simp)
  obtain ⟨n1, rfl, b1⟩ := one_int_cell h1 (by simp)
  obtain ⟨n2, rfl, b2⟩ := one_int_cell h2 (by simp)
  refine ⟨⟨n0, n1, n2⟩, rfl, fun n hn => ?_⟩
  simp only [Ans.nums, List.mem_cons, List.not_mem_nil, or_false] at hn
  rcases hn with rfl | rfl | rfl <;> assumption
/-- A message, of these numbers and entries. -/
def MsgIn (w : World) (v : Value) (m : MNum) (es : List Ent) : Prop := ∃ ve, v = .agg (mailCells m ve) ∧ MNumOk m ∧ EntsIn w ve es
/-- An argument that is an order; an answer; a message. -/
theorem open_ordAt {H : Type} {enc : TypeId × Value → H} {w : World} {base : Nat} {v : Value} {d : DataW H} {ps : List MemPlace}
    (hval : Value.okWide Tryd.prog w .any base 24 v) (h : DataW.Trod enc Tryd.prog w 0 (fun _ => true) true 24 v d ps) : ∃ o : Ord, v = .agg (ordCells o) ∧ OrdOk o := by
  obtain ⟨cs, rfl, hz, _⟩ := open_agg (ts := [3, 3, 3, 3, 3]) (.inl ⟨_, Tryd.underlying24⟩) (by kernel_rfl) (by kernel_rfl) hval
  obtain ⟨fuel, hf0⟩ := h
  obtain ⟨o, ho, hok⟩ := open_ord hf0
  obtain ⟨l⟩ := cs
  exact ⟨o, by rw [show l = (ordCells o).toList from ho], hok⟩
theorem open_ansAt {H : Type} {enc : TypeId × Value → H} {w : World} {base : Nat} {v : Value} {d : DataW H} {ps : List MemPlace}
    (hval : Value.okWide Tryd.prog w .any base 26 v) (h : DataW.Trod enc Tryd.prog w 0 (fun _ => true) true 26 v d ps) : ∃ o : Ans, v = .agg (ansCells o) ∧ AnsOk o := by
  obtain ⟨cs, rfl, hz, _⟩ := open_agg (ts := [3, 3, 3]) (.inl ⟨_, Tryd.underlying26⟩) (by kernel_rfl) (by kernel_rfl) hval
  obtain ⟨fuel, hf0⟩ := h
  obtain ⟨o, ho, hok⟩ := open_ans hf0
  obtain ⟨l⟩ := cs
  exact ⟨o, by rw [show l = (ansCells o).toList from ho], hok⟩
theorem open_msg {H : Type} {enc : TypeId × Value → H} {w : World} {base : Nat} {v : Value} {d : DataW H} {ps : List MemPlace}
    (hval : Value.okWide Tryd.prog w .any base 28 v) (h : DataW.Trod enc Tryd.prog w 0 (fun _ => true) true 28 v d ps) : ∃ m es, MsgIn w v m es := by
  obtain ⟨cs, rfl, hz, _⟩ := open_agg (ts := [3, 3, 3, 3, 3, 3, 3, 3, 3, 22, 3, 3, 3, 3, 3, 3, 3, 3]) (.inl ⟨_, Tryd.underlying28⟩) (by kernel_rfl) (by kernel_rfl) hval
  obtain ⟨fuel, hf0⟩ := h
  obtain ⟨xs, n, rfl, _, _, hlen, hf⟩ := DataW.trod_struct Tryd.underlying28 hf0
  obtain ⟨l⟩ := cs
  obtain ⟨a0, a1, a2, a3, a4, a5, a6, a7, a8, a9, a10, a11, a12, a13, a14, a15, a16, a17, rfl⟩ := list18 (l := l) hz
  obtain ⟨y0, y1, y2, y3, y4, y5, y6, y7, y8, y9, y10, y11, rfl⟩ := list12 (l := xs) hlen
  have h0 : DataW.trod enc Tryd.prog w _ _ _ n 3 (List.take (Tryd.prog.cellsOf 3) (List.drop 0 [a0, a1, a2, a3, a4, a5, a6, a7, a8, a9, a10, a11, a12, a13, a14, a15, a16, a17])) = some y0 := hf 0 _ rfl
  have h1 : DataW.trod enc Tryd.prog w _ _ _ n 3 (List.take (Tryd.prog.cellsOf 3) (List.drop 1 [a0, a1, a2, a3, a4, a5, a6, a7, a8, a9, a10, a11, a12, a13, a14, a15, a16, a17])) = some y1 := hf 1 _ rfl
  have h2 : DataW.trod enc Tryd.prog w _ _ _ n 3 (List.take (Tryd.prog.cellsOf 3) (List.drop 2 [a0, a1, a2, a3, a4, a5, a6, a7, a8, a9, a10, a11, a12, a13, a14, a15, a16, a17])) = some y2 := hf 2 _ rfl
  have h3 : DataW.trod enc Tryd.prog w _ _ _ n 3 (List.take (Tryd.prog.cellsOf 3) (List.drop 3 [a0, a1, a2, a3, a4, a5, a6, a7, a8, a9, a10, a11, a12, a13, a14, a15, a16, a17])) = some y3 := hf 3 _ rfl
  have h4 : DataW.trod enc Tryd.prog w _ _ _ n 3 (List.take (Tryd.prog.cellsOf 3) (List.drop 4 [a0, a1, a2, a3, a4, a5, a6, a7, a8, a9, a10, a11, a12, a13, a14, a15, a16, a17])) = some y4 := hf 4 _ rfl
  have h5 : DataW.trod enc Tryd.prog w _ _ _ n 3 (List.take (Tryd.prog.cellsOf 3) (List.drop 5 [a0, a1, a2, a3, a4, a5, a6, a7, a8, a9, a10, a11, a12, a13, a14, a15, a16, a17])) = some y5 := hf 5 _ rfl
  have h6 : DataW.trod enc Tryd.prog w _ _ _ n 3 (List.take (Tryd.prog.cellsOf 3) (List.drop 6 [a0, a1, a2, a3, a4, a5, a6, a7, a8, a9, a10, a11, a12, a13, a14, a15, a16, a17])) = some y6 := hf 6 _ rfl
  have h7 : DataW.trod enc Tryd.prog w _ _ _ n 3 (List.take (Tryd.prog.cellsOf 3) (List.drop 7 [a0, a1, a2, a3, a4, a5, a6, a7, a8, a9, a10, a11, a12, a13, a14, a15, a16, a17])) = some y7 := hf 7 _ rfl
  have h8 : DataW.trod enc Tryd.prog w _ _ _ n 3 (List.take (Tryd.prog.cellsOf 3) (List.drop 8 [a0, a1, a2, a3, a4, a5, a6, a7, a8, a9, a10, a11, a12, a13, a14, a15, a16, a17])) = some y8 := hf 8 _ rfl
  have h9 : DataW.trod enc Tryd.prog w _ _ _ n 22 (List.take (Tryd.prog.cellsOf 22) (List.drop 9 [a0, a1, a2, a3, a4, a5, a6, a7, a8, a9, a10, a11, a12, a13, a14, a15, a16, a17])) = some y9 := hf 9 _ rfl
  have h10 : DataW.trod enc Tryd.prog w _ _ _ n 24 (List.take (Tryd.prog.cellsOf 24) (List.drop 10 [a0, a1, a2, a3, a4, a5, a6, a7, a8, a9, a10, a11, a12, a13, a14, a15, a16, a17])) = some y10 := hf 10 _ rfl
  have h11 : DataW.trod enc Tryd.prog w _ _ _ n 26 (List.take (Tryd.prog.cellsOf 26) (List.drop 15 [a0, a1, a2, a3, a4, a5, a6, a7, a8, a9, a10, a11, a12, a13, a14, a15, a16, a17])) = some y11 := hf 11 _ rfl
  rw [cells_int] at h0 h1 h2 h3 h4 h5 h6 h7 h8
  rw [show Tryd.prog.cellsOf 22 = 1 by kernel_rfl] at h9
  rw [cells_ord] at h10
  rw [show Tryd.prog.cellsOf 26 = 3 by kernel_rfl] at h11
  obtain ⟨n0, rfl, b0⟩ := one_int_cell h0 (by simp)
  obtain ⟨n1, rfl, b1⟩ := one_int_cell h1 (by simp)
  obtain ⟨n2, rfl, b2⟩ := one_int_cell h2 (by simp)
  obtain ⟨n3, rfl, b3⟩ := one_int_cell h3 (by simp)
  obtain ⟨n4, rfl, b4⟩ := one_int_cell h4 (by simp)
  obtain ⟨n5, rfl, b5⟩ := one_int_cell h5 (by simp)
  obtain ⟨n6, rfl, b6⟩ := one_int_cell h6 (by simp)
  obtain ⟨n7, rfl, b7⟩ := one_int_cell h7 (by simp)
  obtain ⟨n8, rfl, b8⟩ := one_int_cell h8 (by simp)
  obtain ⟨es, hes⟩ := ents_cells (x := y9) h9
  obtain ⟨o, ho, hok⟩ := open_ord (x := y10) h10
  simp only [List.drop_succ_cons, List.drop_zero, List.take_succ_cons, List.take_zero, ordCells] at ho
  simp only [List.cons.injEq, and_true] at ho
  obtain ⟨rfl, rfl, rfl, rfl, rfl⟩ := ho
  obtain ⟨r, hr, hrk⟩ := open_ans (x := y11) h11
  simp only [List.drop_succ_cons, List.drop_zero, List.take_succ_cons, List.take_zero, ansCells] at hr
  simp only [List.cons.injEq, and_true] at hr
  obtain ⟨rfl, rfl, rfl⟩ := hr
  refine ⟨⟨n0, n1, n2, n3, n4, n5, n6, n7, n8, o, r⟩, es, _, rfl, ⟨fun n hn => ?_, hok, hrk⟩, hes⟩
  simp only [MNum.nums, List.mem_cons, List.not_mem_nil, or_false] at hn
  rcases hn with rfl | rfl | rfl | rfl | rfl | rfl | rfl | rfl | rfl <;> assumption
end Go.Proofs.YtnekpehgaojkaaaDoor
