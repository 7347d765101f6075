/- The reader of records: a list of spots (printed by wip/src/XC10n.py). -/
import Derived.Test.YtalilifegclelaaC10m
namespace Go.Proofs.Ytalilifegclelaa
open Go.RowKit

/-- So many spots are read, while none is missing. -/
def rdSpts (s : List UInt8) : Nat → Nat → Bool → List Spt × Nat × Bool
  | 0, a, b => ([], a, b)
  | k + 1, a, b => if b then ([], a, b) else ((rdSpt s a b).1 :: (rdSpts s k (rdSpt s a b).2.1 (rdSpt s a b).2.2).1, (rdSpts s k (rdSpt s a b).2.1 (rdSpt s a b).2.2).2)
theorem rdSpts_bad (s : List UInt8) (k a : Nat) : rdSpts s k a true = ([], a, true) := by cases k <;> simp [rdSpts]
theorem rdSpts_good (s : List UInt8) (k a : Nat) : rdSpts s (k + 1) a false = ((rdSpt s a false).1 :: (rdSpts s k (rdSpt s a false).2.1 (rdSpt s a false).2.2).1, (rdSpts s k (rdSpt s a false).2.1 (rdSpt s a false).2.2).2) := by simp [rdSpts]
theorem rdSpt_pos {s : List UInt8} {a : Nat} {b : Bool} (h : a ≤ s.length) : a ≤ (rdSpt s a b).2.1 ∧ (rdSpt s a b).2.1 ≤ s.length ∧ ((rdSpt s a b).2.2 = false → a + 1 ≤ (rdSpt s a b).2.1) := by
  obtain ⟨p1, p2, p3⟩ := rdL_pos 2 a b h
  exact ⟨p1, p2, fun hb => Nat.le_trans (Nat.le_succ _) (p3 hb)⟩
def rdSptL (s : List UInt8) (a : Nat) (b : Bool) : List Spt × Nat × Bool := rdSpts s ((rdL s 1 a b).1.getD 0 0).toNat (rdL s 1 a b).2.1 (rdL s 1 a b).2.2
def sptVals (es : List Spt) : List Value := es.flatMap fun x => (sptCells x).toList
theorem sptVals_more (es : List Spt) (x : Spt) : sptVals (es ++ [x]) = sptVals es ++ (sptCells x).toList := by simp [sptVals]
theorem info_spt : (Try.prog.info? 32).map (fun i => (i.zero, i.size, i.bytes)) = some (some (.agg (sptCells noSpt)), 2, 16) := by kernel_rfl
theorem spt_at (w : World) (x : Spt) (t : TypeId) : ∀ j u, (sptCells x).toList[j]? = some u → (w.alloc (.cells (sptCells x) t)).cell? (Addr.add ⟨w.heap.size, 0, none⟩ j) = some u := by
  intro j u h
  have e : Addr.add ⟨w.heap.size, 0, none⟩ j = ⟨w.heap.size, j, none⟩ := by
    unfold Addr.add; split
    · subst_vars; rfl
    · simp
  rw [e, World.cell?_alloc_mark]
  simpa using h
theorem spt_one (x : Spt) : ∀ u ∈ (sptCells x).toList, u.oneCell' = true := by
  intro u hu; simp [sptCells] at hu; rcases hu with rfl | rfl <;> rfl

set_option maxRecDepth 100000 in
set_option maxHeartbeats 4000000 in
theorem readSpts_any {R C a : Nat} {b : Bool} {s : ByteArray} {w : World} (hs : s.size ≤ 1000000) (ha : a ≤ s.size) (hR : w.heap[R]? = some (.cells (rdCells s a b) 58 (0, 0))) (hC : w.cell? ⟨C, 0, none⟩ = some (.pointer (some ⟨R, 0, none⟩))) (hCR : C ≠ R) :
    Calls Try.prog 33 #[.pointer (some ⟨R, 0, none⟩), .func (.func 34) #[] #[.pointer (some ⟨C, 0, none⟩)]] w fun e w' => ∃ v, e = .returned v ∧
      w'.ownsRow (w.heap.size + 1) 32 2 v (rdSptL s.data.toList a b).1.length (sptVals (rdSptL s.data.toList a b).1) ∧
      w'.heap[R]? = some (.cells (rdCells s (rdSptL s.data.toList a b).2.1 (rdSptL s.data.toList a b).2.2) 58 (0, 0)) ∧ Wrote R R w w' := by
  have hCl : C < w.heap.size := block_lt_of_cell hC
  have HCC := Lib.hid hC
  clear hC
  obtain ⟨i0, hi, hz0, hz1, hz2⟩ := info_parts info_spt
  have hlt := (Array.getElem?_eq_some_iff.1 hR).1
  obtain ⟨w1, e1, b1, s1, h1⟩ := boxed w #[.int .i64 0] 3
  obtain ⟨w2, e2, b2, s2, c2⟩ := ptrs_built w1 w.heap.size [0] 60
  have hW2 : Wrote R R w w2 := by rw [← e2, ← e1]; exact (Wrote.of_alloc _ _).trans (Wrote.of_alloc _ _)
  have HX := Lib.hid (rints_any (R := R) (T := w.heap.size) (g := w1.heap.size) (off := 0) (cap := 1) (os := [0]) (Nat.le_trans hs (by decide)) (by rw [b2.block R (by omega), b1.block R hlt]; exact hR) ((b2.block _ (by omega)).trans h1) (by omega) (by omega) (by omega) (by omega)
    (by intro o ho; simp at ho; rcases ho with rfl; exact ⟨0, rfl⟩) (by decide) c2)
  rw [s1] at HX
  have E1 := Lib.hid (show w.alloc (.cells #[.int .i64 0] 3) = w1 from e1)
  have E2 := Lib.hid (show w1.alloc (.cells #[.pointer (some ⟨w.heap.size, 0, none⟩)] 60) = w2 from e2)
  have hq : ([0] : List Nat).length = 1 := rfl
  rw [hq] at HX
  clear e1 e2 h1 c2 hR
  obtain ⟨E, hEd⟩ : ∃ E, rdSptL s.data.toList a b = E := ⟨_, rfl⟩
  rw [hEd]
  have HE := Lib.hid (show E = rdSpts s.data.toList ((rdL s.data.toList 1 a b).1.getD 0 0).toNat (rdL s.data.toList 1 a b).2.1 (rdL s.data.toList 1 a b).2.2 from hEd.symm)
  clear hEd
  go_enter Try.func33, Try.ntmps33
  have HI := Lib.hid (And.intro hi (And.intro hz0 (And.intro hz1 hz2)))
  clear hi hz0 hz1 hz2
  go_wp2_with fail
  rw [E1.out, E2.out]
  refine HX.out.mono ?_
  rintro e w3 ⟨rfl, r3, t3, hW3⟩
  have hpos := rdL_pos (s := s.data.toList) 1 a b (by rw [bytes_len]; exact ha)
  rw [bytes_len] at hpos
  obtain ⟨-, hp2, -⟩ := hpos
  have hcell : putAt #[Value.int .i64 0] [0] (rdL s.data.toList 1 a b).1 = #[.int .i64 ((rdL s.data.toList 1 a b).1.getD 0 0)] := by
    have := rdL_len s.data.toList 1 a b
    match (rdL s.data.toList 1 a b).1, this with
    | [], _ => rfl
    | [_], _ => rfl
    | _ :: _ :: _, h => simp at h
  rw [hcell] at t3
  clear hcell
  have hN := getD_i64 (rdL_i64 1 a b : ∀ n ∈ (rdL s.data.toList 1 a b).1, _) 0
  generalize (rdL s.data.toList 1 a b).1.getD 0 0 = N at *
  generalize (rdL s.data.toList 1 a b).2 = p at *
  have hW3' := hW2.fresh hW3 (Nat.le_refl _)
  have R3 := Lib.hid r3
  have T3 := Lib.hid t3
  have B3 := hW3'.below.size
  have hs3 := hW3.below.size
  clear r3 t3
  go_wp2_with fail
  go_loopw [6] (fun v wr => ∃ (es : List Spt) (n : Int) (a' : Nat) (b' : Bool), wr.heap[w.heap.size]? = some (.cells #[.int .i64 n] 3 (0, 0)) ∧ wr.heap[R]? = some (.cells (rdCells s a' b') 58 (0, 0)) ∧
    wr.ownsRow (w.heap.size + 1) 32 2 v es.length (sptVals es) ∧ Wrote R R w wr ∧ w.heap.size + 1 ≤ wr.heap.size ∧ a' ≤ s.size ∧ (b' = false → es.length ≤ a') ∧ es.length ≤ a' + 1 ∧ n ≤ 9223372036854775807 ∧
    E = (es ++ (rdSpts s.data.toList n.toNat a' b').1, (rdSpts s.data.toList n.toNat a' b').2)) (fun _ wr => (intOf ((wr.cell? ⟨w.heap.size, 0, none⟩).getD (.int .i64 0))).toNat)
  case atStart =>
    exact ⟨[], N, p.1, p.2, T3.out, R3.out, ⟨rfl, .inl ⟨rfl, rfl⟩⟩, hW3', by omega, hp2, by simp, by simp, hN.2, HE.out⟩
  case round =>
    obtain ⟨es, n, a', b', hT, hR, hown, hW, hsz, ha', hc1, hc2, hn, hE⟩ := hrel
    have t0 : wr.cell? ⟨w.heap.size, 0, none⟩ = some (.int .i64 n) := by simp [World.cell?, hT]
    obtain ⟨c0, c1, c2⟩ := rd_cells hR
    have t0' := t0
    have HEE := Lib.hid hE
    have HT := Lib.hid hT
    have HR := Lib.hid hR
    have HO := Lib.hid hown
    clear hE hT hR hown
    by_cases hn0 : 0 < n
    · have d1 : decide (0 < n) = true := decide_eq_true hn0
      cases b' with
      | true =>
        go_wp2
        go_ret
        rw [HEE.out, rdSpts_bad, List.append_nil]
        exact ⟨_, rfl, HO.out, HR.out, hW⟩
      | false =>
        have HN := Lib.hid (rspot_any (Nat.le_trans hs (by decide)) HR.out ((World.cell?_of_block (hW.other C hCl hCR hCR)).trans HCC.out))
        go_wp2_with fail
        refine HN.out.mono ?_
        rintro e w4 ⟨rfl, r4, hW4⟩
        have hown4 := owns_wrote HO.out hW4 (by omega)
        have t4 := (hW4.other w.heap.size (by omega) (by omega) (by omega)).trans HT.out
        have hpos := rdSpt_pos (s := s.data.toList) (a := a') (b := false) (by rw [bytes_len]; exact ha')
        rw [bytes_len] at hpos
        obtain ⟨q1, q2, q3⟩ := hpos
        have HE2 := Lib.hid (show E = (es ++ [(rdSpt s.data.toList a' false).1] ++ (rdSpts s.data.toList (n - 1).toNat (rdSpt s.data.toList a' false).2.1 (rdSpt s.data.toList a' false).2.2).1, (rdSpts s.data.toList (n - 1).toNat (rdSpt s.data.toList a' false).2.1 (rdSpt s.data.toList a' false).2.2).2) by
          rw [HEE.out, show n.toNat = (n - 1).toNat + 1 by omega, rdSpts_good]; simp)
        generalize rdSpt s.data.toList a' false = x at *
        have R4 := Lib.hid r4
        have T4 := Lib.hid t4
        have hs4 := hW4.below.size
        have hes : es.length ≤ 1000000 := by have := hc1 trivial; omega
        have hWx := hW.trans hW4
        clear r4 t4 c0 c1 c2
        simp only [sptCells]
        go_wp2_with (at_builtin; refine wpList_append_own _ rfl _ _ 23 rfl (w.heap.size + 1) 32 i0 (.agg (sptCells noSpt)) 2 16 Try.underlying23 HI.out.1 HI.out.2.1 HI.out.2.2.1 HI.out.2.2.2 rfl (by decide) _ _ _ rfl (hown4.alloc _) ⟨w4.heap.size, 0, none⟩ 1 1 (sptCells x.1).toList rfl rfl (spt_at _ _ _) (spt_one _) (by unfold maxLen; omega) (by omega) (by simp; omega) ?_)
        intro v' w5 hown5 hgr _
        have hownA := hown4.alloc (.cells (sptCells x.1) 32)
        have hl5 := fun (k : Nat) (h1 : k < w4.heap.size) (h2 : k < w.heap.size + 1) => (grown_low hownA hgr (k := k) (by simp; omega) h2).trans (((Below.refl _ _).alloc (Nat.le_refl _) _ : Below w4.heap.size w4 (w4.alloc (.cells (sptCells x.1) 32))).block k h1)
        have t5 := (hl5 w.heap.size (by omega) (by omega)).trans T4.out
        have r5 := (hl5 R (by omega) (by omega)).trans R4.out
        have hW5 := wrote_grown (hWx.trans (Wrote.of_alloc _ _)) hownA hgr (Nat.le_succ _)
        have hs5 := hW5.below.size
        have u0 : w5.cell? ⟨w.heap.size, 0, none⟩ = some (.int .i64 n) := by simp [World.cell?, t5]
        have f0 := thawed t5 0
        have T5 := Lib.hid t5
        have R5 := Lib.hid r5
        have O5 := Lib.hid hown5
        have hWn : IntKind.i64.wrap (n - 1) = n - 1 := IntWalk.i64_in _ (by omega)
        clear t5 r5 hown5 hgr hl5 hownA hown4 t0
        go_wp2
        go_roundw
        case rel =>
          have hT1 : w.heap.size < w.heap.size + 1 := Nat.lt_succ_self _
          rw [setCell_eq_setRow w5 w.heap.size 0 _ 3 _ _ T5.out]
          refine ⟨es ++ [x.1], n - 1, x.2.1, x.2.2, ?_, ?_, ?_, ?_, ?_, q2, ?_, ?_, by omega, HE2.out⟩
          · exact setRow_heap _ _ _ _ _ _ T5.out
          · rw [setRow_other _ _ _ _ (by omega)]; exact R5.out
          · rw [sptVals_more, List.length_append, List.length_singleton]
            exact owns_wrote O5.out ((Wrote.refl w.heap.size w.heap.size w5).row (.inl rfl) _) hT1
          · exact hW5.fresh ((Wrote.refl R w.heap.size w5).row (.inr rfl) _) (Nat.le_refl _)
          · rw [setRow_size]; exact (Array.getElem?_eq_some_iff.1 T5.out).1
          · intro h; have := q3 h; have := hc1 trivial; rw [List.length_append, List.length_singleton]; omega
          · have := hc1 trivial; rw [List.length_append, List.length_singleton]; omega
        case measure =>
          rw [setCell_eq_setRow w5 w.heap.size 0 _ 3 _ _ T5.out, cell_setRow_same w5 w.heap.size 0 _ _ _ _ T5.out, t0']
          simp [intOf]; omega
    · have d1 : decide (0 < n) = false := decide_eq_false hn0
      have hz : n.toNat = 0 := by omega
      rw [hz] at HEE
      go_wp2
      go_ret
      rw [HEE.out]
      simp only [rdSpts, List.append_nil]
      exact ⟨_, rfl, HO.out, HR.out, hW⟩
end Go.Proofs.Ytalilifegclelaa
