/- The reader of packs: a list of entries. -/
import Derived.Test.YtnekpehgaojkaaaDoorC11k
namespace Go.Proofs.YtnekpehgaojkaaaDoor
open Go.RowKit

/-- So many entries are read, while none is missing. -/
def rdEnts (s : List UInt8) : Nat → Nat → Bool → List Ent × Nat × Bool
  | 0, a, b => ([], a, b)
  | k + 1, a, b => if b then ([], a, b) else ((rdEnt s a b).1 :: (rdEnts s k (rdEnt s a b).2.1 (rdEnt s a b).2.2).1, (rdEnts s k (rdEnt s a b).2.1 (rdEnt s a b).2.2).2)
theorem rdEnts_bad (s : List UInt8) (k a : Nat) : rdEnts s k a true = ([], a, true) := by cases k <;> simp [rdEnts]
theorem rdEnts_good (s : List UInt8) (k a : Nat) : rdEnts s (k + 1) a false = ((rdEnt s a false).1 :: (rdEnts s k (rdEnt s a false).2.1 (rdEnt s a false).2.2).1, (rdEnts s k (rdEnt s a false).2.1 (rdEnt s a false).2.2).2) := by simp [rdEnts]
theorem rdL_pos {s : List UInt8} : ∀ (k a : Nat) (b : Bool), a ≤ s.length → a ≤ (rdL s k a b).2.1 ∧ (rdL s k a b).2.1 ≤ s.length ∧ ((rdL s k a b).2.2 = false → a + k ≤ (rdL s k a b).2.1)
  | 0, a, b, h => by simp [rdL]; omega
  | k + 1, a, b, h => by
    cases b
    · cases hg : getI s a with
      | none => rw [rdL_none hg]; simp; omega
      | some x =>
        obtain ⟨n, m⟩ := x
        obtain ⟨g1, g2, g3, g4, _⟩ := getI_bounds hg
        obtain ⟨i1, i2, i3⟩ := rdL_pos k m false g4
        rw [rdL_some hg]
        refine ⟨by simp; omega, i2, fun hb => ?_⟩
        have := i3 hb
        simp; omega
    · rw [rdL_bad]; simp; omega
theorem rdEnt_pos {s : List UInt8} {a : Nat} {b : Bool} (h : a ≤ s.length) : a ≤ (rdEnt s a b).2.1 ∧ (rdEnt s a b).2.1 ≤ s.length ∧ ((rdEnt s a b).2.2 = false → a + 1 ≤ (rdEnt s a b).2.1) := by
  obtain ⟨p1, p2, p3⟩ := rdL_pos 1 a b h
  obtain ⟨q1, q2, q3⟩ := rdL_pos 5 (rdL s 1 a b).2.1 (rdL s 1 a b).2.2 p2
  refine ⟨Nat.le_trans p1 q1, q2, fun hb => ?_⟩
  have := q3 hb
  show a + 1 ≤ (rdL s 5 (rdL s 1 a b).2.1 (rdL s 1 a b).2.2).2.1
  omega
def rdEntL (s : List UInt8) (a : Nat) (b : Bool) : List Ent × Nat × Bool := rdEnts s ((rdL s 1 a b).1.getD 0 0).toNat (rdL s 1 a b).2.1 (rdL s 1 a b).2.2
theorem owns_wrote {B R n sz : Nat} {e : TypeId} {w w' : World} {v : Value} {xs : List Value} (h : w.ownsRow B e sz v n xs) (hW : Wrote R R w w') (hR : R < B) : w'.ownsRow B e sz v n xs := by
  refine ⟨h.1, h.2.imp_right ?_⟩
  rintro ⟨g, cap, cur, rfl, hg, hh, rest⟩
  exact ⟨g, cap, cur, rfl, hg, (hW.other g (Array.getElem?_eq_some_iff.1 hh).1 (by omega) (by omega)).trans hh, rest⟩
def entVals (es : List Ent) : List Value := es.flatMap fun x => (entCells x).toList
theorem entVals_more (es : List Ent) (x : Ent) : entVals (es ++ [x]) = entVals es ++ (entCells x).toList := by simp [entVals]
theorem wrote_grown {R B : Nat} {w0 w w' : World} {v : Value} {e : TypeId} {n sz : Nat} {xs : List Value} (h : Wrote R R w0 w) (hown : w.ownsRow B e sz v n xs) (hg : w.grownBy w' v.ownBlock) (hB : w0.heap.size ≤ B) : Wrote R R w0 w' := by
  refine ⟨h.below.grown hg (Nat.zero_le _) (fun _ _ => Nat.zero_le _), fun k hk h1 _ => (hg.block k (Nat.lt_of_lt_of_le hk h.below.size) (fun e => ?_)).trans (h.other k hk h1 h1)⟩
  rcases hown.2 with ⟨rfl, _⟩ | ⟨g, cap, cur, rfl, hBg, _, _⟩
  · cases e
  · have : k = g := by simpa [Value.ownBlock] using e
    omega

theorem grown_low {B n sz k : Nat} {w w' : World} {v : Value} {e : TypeId} {xs : List Value} (hown : w.ownsRow B e sz v n xs) (hg : w.grownBy w' v.ownBlock) (hk : k < w.heap.size) (hB : k < B) : w'.heap[k]? = w.heap[k]? := by
  refine hg.block k hk (fun e => ?_)
  rcases hown.2 with ⟨rfl, _⟩ | ⟨g, cap, cur, rfl, hBg, _, _⟩
  · cases e
  · have : k = g := by simpa [Value.ownBlock] using e
    omega
theorem rdL_i64 {s : List UInt8} : ∀ (k a : Nat) (b : Bool), ∀ n ∈ (rdL s k a b).1, -9223372036854775808 ≤ n ∧ n ≤ 9223372036854775807
  | 0, a, b => by simp [rdL]
  | k + 1, a, b => by
    cases b
    · cases hg : getI s a with
      | none => rw [rdL_none hg]; simp
      | some x =>
        obtain ⟨n, m⟩ := x
        obtain ⟨g1, g2, g3, g4, g5, g6, _⟩ := getI_bounds hg
        rw [rdL_some hg]
        intro y hy
        rcases List.mem_cons.1 hy with rfl | hy
        · exact ⟨g5, g6⟩
        · exact rdL_i64 k m false y hy
    · rw [rdL_bad]; simp
theorem getD_i64 {l : List Int} (h : ∀ n ∈ l, -9223372036854775808 ≤ n ∧ n ≤ 9223372036854775807) (j : Nat) : -9223372036854775808 ≤ l.getD j 0 ∧ l.getD j 0 ≤ 9223372036854775807 := by
  by_cases hj : j < l.length
  · have e : l.getD j 0 = l[j] := by simp [List.getD, hj]
    rw [e]; exact h _ (List.getElem_mem hj)
  · have e : l.getD j 0 = 0 := by simp [List.getD, List.getElem?_eq_none (Nat.le_of_not_lt hj)]
    rw [e]; omega
theorem info_ent : (Tryd.prog.info? 30).map (fun i => (i.zero, i.size, i.bytes)) = some (some (.agg (entCells noEnt)), 6, 48) := by kernel_rfl
theorem ent_at (w : World) (x : Ent) (t : TypeId) : ∀ j u, (entCells x).toList[j]? = some u → (w.alloc (.cells (entCells x) t)).cell? (Addr.add ⟨w.heap.size, 0, none⟩ j) = some u := by
  intro j u h
  have e : Addr.add ⟨w.heap.size, 0, none⟩ j = ⟨w.heap.size, j, none⟩ := by
    unfold Addr.add; split
    · subst_vars; rfl
    · simp
  rw [e, World.cell?_alloc_mark]
  simpa using h
theorem ent_one (x : Ent) : ∀ u ∈ (entCells x).toList, u.oneCell' = true := by
  intro u hu; simp [entCells] at hu; rcases hu with rfl | rfl | rfl | rfl | rfl | rfl <;> rfl

set_option maxRecDepth 100000 in
set_option maxHeartbeats 4000000 in
theorem readEnts_any {R a : Nat} {b : Bool} {s : ByteArray} {w : World} (hs : s.size ≤ 1000000) (ha : a ≤ s.size) (hR : w.heap[R]? = some (.cells (rdCells s a b) 58 (0, 0))) :
    Calls Tryd.prog 29 #[.pointer (some ⟨R, 0, none⟩), .func (.func 30) #[.pointer (some ⟨R, 0, none⟩)] #[]] w fun e w' => ∃ v, e = .returned v ∧
      w'.ownsRow (w.heap.size + 1) 30 6 v (rdEntL s.data.toList a b).1.length (entVals (rdEntL s.data.toList a b).1) ∧
      w'.heap[R]? = some (.cells (rdCells s (rdEntL s.data.toList a b).2.1 (rdEntL s.data.toList a b).2.2) 58 (0, 0)) ∧ Wrote R R w w' := by
  obtain ⟨i0, hi, hz0, hz1, hz2⟩ := info_parts info_ent
  have hlt := (Array.getElem?_eq_some_iff.1 hR).1
  obtain ⟨w1, e1, b1, s1, h1⟩ := boxed w #[.int .i64 0] 3
  obtain ⟨w2, e2, b2, s2, c2⟩ := ptrs_built w1 w.heap.size [0] 60
  have hW2 : Wrote R R w w2 := by rw [← e2, ← e1]; exact (Wrote.of_alloc _ _).trans (Wrote.of_alloc _ _)
  have HX := Lib.hid (rints_any (R := R) (T := w.heap.size) (g := w1.heap.size) (off := 0) (cap := 1) (os := [0]) (Nat.le_trans hs (by decide)) (by rw [b2.block R (by omega), b1.block R hlt]; exact hR) ((b2.block _ (by omega)).trans h1) (by omega) (by omega) (by omega) (by omega)
    (by intro o ho; simp at ho; rcases ho with rfl; exact ⟨0, rfl⟩) (by decide) c2)
  rw [s1] at HX
  have E1 := Lib.hid (show w.alloc (.cells #[.int .i64 0] 3) = w1 from e1)
  have E2 := Lib.hid (show w1.alloc (.cells #[.pointer (some ⟨w.heap.size, 0, none⟩)] 60) = w2 from e2)
  have hq : ([0] : List Nat).length = 1 := rfl
  rw [hq] at HX
  clear e1 e2 h1 c2 hR
  obtain ⟨E, hEd⟩ : ∃ E, rdEntL s.data.toList a b = E := ⟨_, rfl⟩
  rw [hEd]
  have HE := Lib.hid (show E = rdEnts s.data.toList ((rdL s.data.toList 1 a b).1.getD 0 0).toNat (rdL s.data.toList 1 a b).2.1 (rdL s.data.toList 1 a b).2.2 from hEd.symm)
  clear hEd
  go_enter Tryd.func29, Tryd.ntmps29
  have HI := Lib.hid (And.intro hi (And.intro hz0 (And.intro hz1 hz2)))
  clear hi hz0 hz1 hz2
  go_wp2_with fail
  rw [E1.out, E2.out]
  refine HX.out.mono ?_
  rintro e w3 ⟨rfl, r3, t3, hW3⟩
  have hpos := rdL_pos (s := s.data.toList) 1 a b (by rw [bytes_len]; exact ha)
  rw [bytes_len] at hpos
  obtain ⟨-, hp2, -⟩ := hpos
  have hcell : putAt #[Value.int .i64 0] [0] (rdL s.data.toList 1 a b).1 = #[.int .i64 ((rdL s.data.toList 1 a b).1.getD 0 0)] := by
    have := rdL_len s.data.toList 1 a b
    match (rdL s.data.toList 1 a b).1, this with
    | [], _ => rfl
    | [_], _ => rfl
    | _ :: _ :: _, h => simp at h
  rw [hcell] at t3
  clear hcell
  have hN := getD_i64 (rdL_i64 1 a b : ∀ n ∈ (rdL s.data.toList 1 a b).1, _) 0
  generalize (rdL s.data.toList 1 a b).1.getD 0 0 = N at *
  generalize (rdL s.data.toList 1 a b).2 = p at *
  have hW3' := hW2.fresh hW3 (Nat.le_refl _)
  have R3 := Lib.hid r3
  have T3 := Lib.hid t3
  have B3 := hW3'.below.size
  have hs3 := hW3.below.size
  clear r3 t3
  go_wp2_with fail
  go_loopw [6] (fun v wr => ∃ (es : List Ent) (n : Int) (a' : Nat) (b' : Bool), wr.heap[w.heap.size]? = some (.cells #[.int .i64 n] 3 (0, 0)) ∧ wr.heap[R]? = some (.cells (rdCells s a' b') 58 (0, 0)) ∧
    wr.ownsRow (w.heap.size + 1) 30 6 v es.length (entVals es) ∧ Wrote R R w wr ∧ w.heap.size + 1 ≤ wr.heap.size ∧ a' ≤ s.size ∧ (b' = false → es.length ≤ a') ∧ es.length ≤ a' + 1 ∧ n ≤ 9223372036854775807 ∧
    E = (es ++ (rdEnts s.data.toList n.toNat a' b').1, (rdEnts s.data.toList n.toNat a' b').2)) (fun _ wr => (intOf ((wr.cell? ⟨w.heap.size, 0, none⟩).getD (.int .i64 0))).toNat)
  case atStart =>
    exact ⟨[], N, p.1, p.2, T3.out, R3.out, ⟨rfl, .inl ⟨rfl, rfl⟩⟩, hW3', by omega, hp2, by simp, by simp, hN.2, HE.out⟩
  case round =>
    obtain ⟨es, n, a', b', hT, hR, hown, hW, hsz, ha', hc1, hc2, hn, hE⟩ := hrel
    have t0 : wr.cell? ⟨w.heap.size, 0, none⟩ = some (.int .i64 n) := by simp [World.cell?, hT]
    obtain ⟨c0, c1, c2⟩ := rd_cells hR
    have t0' := t0
    have HEE := Lib.hid hE
    have HT := Lib.hid hT
    have HR := Lib.hid hR
    have HO := Lib.hid hown
    clear hE hT hR hown
    by_cases hn0 : 0 < n
    · have d1 : decide (0 < n) = true := decide_eq_true hn0
      cases b' with
      | true =>
        go_wp2
        go_ret
        rw [HEE.out, rdEnts_bad, List.append_nil]
        exact ⟨_, rfl, HO.out, HR.out, hW⟩
      | false =>
        have HN := Lib.hid (rentry_any (Nat.le_trans hs (by decide)) HR.out)
        go_wp2_with fail
        refine HN.out.mono ?_
        rintro e w4 ⟨rfl, r4, hW4⟩
        have hown4 := owns_wrote HO.out hW4 (by omega)
        have t4 := (hW4.other w.heap.size (by omega) (by omega) (by omega)).trans HT.out
        have hpos := rdEnt_pos (s := s.data.toList) (a := a') (b := false) (by rw [bytes_len]; exact ha')
        rw [bytes_len] at hpos
        obtain ⟨q1, q2, q3⟩ := hpos
        have HE2 := Lib.hid (show E = (es ++ [(rdEnt s.data.toList a' false).1] ++ (rdEnts s.data.toList (n - 1).toNat (rdEnt s.data.toList a' false).2.1 (rdEnt s.data.toList a' false).2.2).1, (rdEnts s.data.toList (n - 1).toNat (rdEnt s.data.toList a' false).2.1 (rdEnt s.data.toList a' false).2.2).2) by
          rw [HEE.out, show n.toNat = (n - 1).toNat + 1 by omega, rdEnts_good]; simp)
        generalize rdEnt s.data.toList a' false = x at *
        have R4 := Lib.hid r4
        have T4 := Lib.hid t4
        have hs4 := hW4.below.size
        have hes : es.length ≤ 1000000 := by have := hc1 trivial; omega
        have hWx := hW.trans hW4
        clear r4 t4 c0 c1 c2
        simp only [entCells]
        go_wp2_with (at_builtin; refine wpList_append_own _ rfl _ _ 22 rfl (w.heap.size + 1) 30 i0 (.agg (entCells noEnt)) 6 48 Tryd.underlying22 HI.out.1 HI.out.2.1 HI.out.2.2.1 HI.out.2.2.2 rfl (by decide) _ _ _ rfl (hown4.alloc _) ⟨w4.heap.size, 0, none⟩ 1 1 (entCells x.1).toList rfl rfl (ent_at _ _ _) (ent_one _) (by unfold maxLen; omega) (by omega) (by simp; omega) ?_)
        intro v' w5 hown5 hgr _
        have hownA := hown4.alloc (.cells (entCells x.1) 30)
        have hl5 := fun (k : Nat) (h1 : k < w4.heap.size) (h2 : k < w.heap.size + 1) => (grown_low hownA hgr (k := k) (by simp; omega) h2).trans (((Below.refl _ _).alloc (Nat.le_refl _) _ : Below w4.heap.size w4 (w4.alloc (.cells (entCells x.1) 30))).block k h1)
        have t5 := (hl5 w.heap.size (by omega) (by omega)).trans T4.out
        have r5 := (hl5 R (by omega) (by omega)).trans R4.out
        have hW5 := wrote_grown (hWx.trans (Wrote.of_alloc _ _)) hownA hgr (Nat.le_succ _)
        have hs5 := hW5.below.size
        have u0 : w5.cell? ⟨w.heap.size, 0, none⟩ = some (.int .i64 n) := by simp [World.cell?, t5]
        have f0 := thawed t5 0
        have T5 := Lib.hid t5
        have R5 := Lib.hid r5
        have O5 := Lib.hid hown5
        have hWn : IntKind.i64.wrap (n - 1) = n - 1 := IntWalk.i64_in _ (by omega)
        clear t5 r5 hown5 hgr hl5 hownA hown4 t0
        go_wp2
        go_roundw
        case rel =>
          have hT1 : w.heap.size < w.heap.size + 1 := Nat.lt_succ_self _
          rw [setCell_eq_setRow w5 w.heap.size 0 _ 3 _ _ T5.out]
          refine ⟨es ++ [x.1], n - 1, x.2.1, x.2.2, ?_, ?_, ?_, ?_, ?_, q2, ?_, ?_, by omega, HE2.out⟩
          · exact setRow_heap _ _ _ _ _ _ T5.out
          · rw [setRow_other _ _ _ _ (by omega)]; exact R5.out
          · rw [entVals_more, List.length_append, List.length_singleton]
            exact owns_wrote O5.out ((Wrote.refl w.heap.size w.heap.size w5).row (.inl rfl) _) hT1
          · exact hW5.fresh ((Wrote.refl R w.heap.size w5).row (.inr rfl) _) (Nat.le_refl _)
          · rw [setRow_size]; exact (Array.getElem?_eq_some_iff.1 T5.out).1
          · intro h; have := q3 h; have := hc1 trivial; rw [List.length_append, List.length_singleton]; omega
          · have := hc1 trivial; rw [List.length_append, List.length_singleton]; omega
        case measure =>
          rw [setCell_eq_setRow w5 w.heap.size 0 _ 3 _ _ T5.out, cell_setRow_same w5 w.heap.size 0 _ _ _ _ T5.out, t0']
          simp [intOf]; omega
    · have d1 : decide (0 < n) = false := decide_eq_false hn0
      have hz : n.toNat = 0 := by omega
      rw [hz] at HEE
      go_wp2
      go_ret
      rw [HEE.out]
      simp only [rdEnts, List.append_nil]
      exact ⟨_, rfl, HO.out, HR.out, hW⟩
end Go.Proofs.YtnekpehgaojkaaaDoor
