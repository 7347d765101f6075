/- The reference's reader: Order, Log. (Printed by wip/src/XC10F.py.) -/
import Derived.Test.YtnekpehgaojkaaaDoorC11D
namespace Go.Proofs.YtnekpehgaojkaaaDoor
open Go.RowKit

/-- One int, then the others. -/
theorem rdL_split (s : List UInt8) (k a : Nat) (b : Bool) :
    (rdL s (k + 1) a b).1.getD 0 0 = (rdL s 1 a b).1.getD 0 0 ∧ (∀ i, (rdL s (k + 1) a b).1.getD (i + 1) 0 = (rdL s k (rdL s 1 a b).2.1 (rdL s 1 a b).2.2).1.getD i 0) ∧ (rdL s (k + 1) a b).2 = (rdL s k (rdL s 1 a b).2.1 (rdL s 1 a b).2.2).2 := by
  cases b with
  | true => simp [rdL_bad]
  | false =>
    cases hg : getI s a with
    | none => simp [rdL_none hg, rdL_bad]
    | some x =>
      obtain ⟨n, m⟩ := x
      rw [rdL1_some hg, rdL_some hg]
      simp
/-- Five ints, one behind the other. -/
theorem rd5 {s : List UInt8} {a : Nat} {b : Bool} {p1 p2 p3 p4 p5 : List Int × Nat × Bool} (h1 : rdL s 1 a b = p1) (h2 : rdL s 1 p1.2.1 p1.2.2 = p2) (h3 : rdL s 1 p2.2.1 p2.2.2 = p3) (h4 : rdL s 1 p3.2.1 p3.2.2 = p4) (h5 : rdL s 1 p4.2.1 p4.2.2 = p5) :
    rdOrd (rdL s 5 a b).1 = ⟨p1.1.getD 0 0, p2.1.getD 0 0, p3.1.getD 0 0, p4.1.getD 0 0, p5.1.getD 0 0⟩ ∧ (rdL s 5 a b).2 = p5.2 := by
  obtain ⟨a1, b1, c1⟩ := rdL_split s 4 a b
  rw [h1] at a1 b1 c1
  obtain ⟨a2, b2, c2⟩ := rdL_split s 3 p1.2.1 p1.2.2
  rw [h2] at a2 b2 c2
  obtain ⟨a3, b3, c3⟩ := rdL_split s 2 p2.2.1 p2.2.2
  rw [h3] at a3 b3 c3
  obtain ⟨a4, b4, c4⟩ := rdL_split s 1 p3.2.1 p3.2.2
  rw [h4] at a4 b4 c4
  rw [h5] at b4 c4
  refine ⟨?_, by rw [c1, c2, c3, c4]⟩
  unfold rdOrd
  rw [a1, b1 0, a2, b1 1, b2 0, a3, b1 2, b2 1, b3 0, a4, b1 3, b2 2, b3 1, b4 0]

set_option maxRecDepth 100000 in
set_option maxHeartbeats 4000000 in
theorem rordRef_any {R a : Nat} {b : Bool} {s : ByteArray} {w : World} (hs : s.size ≤ maxLen) (hR : w.heap[R]? = some (.cells (rdCells s a b) 65 (0, 0))) :
    Calls Tryd.prog 34 #[.pointer (some ⟨R, 0, none⟩)] w fun e w' => e = .returned (.agg (ordCells (rdOrd (rdL s.data.toList 5 a b).1))) ∧
      w'.heap[R]? = some (.cells (rdCells s (rdL s.data.toList 5 a b).2.1 (rdL s.data.toList 5 a b).2.2) 65 (0, 0)) ∧ Wrote R R w w' := by
  have hlt := (Array.getElem?_eq_some_iff.1 hR).1
  obtain ⟨w1, e1, b1, s1, h1⟩ := boxed w (ordCells noOrd) 24
  have hW1 : Wrote R R w w1 := by rw [← e1]; exact Wrote.of_alloc _ _
  have E1 := Lib.hid (show w.alloc (.cells #[.int .i64 0, .int .i64 0, .int .i64 0, .int .i64 0, .int .i64 0] 24) = w1 from e1)
  obtain ⟨p1, q1⟩ : ∃ p, rdL s.data.toList 1 a b = p := ⟨_, rfl⟩
  obtain ⟨p2, q2⟩ : ∃ p, rdL s.data.toList 1 p1.2.1 p1.2.2 = p := ⟨_, rfl⟩
  obtain ⟨p3, q3⟩ : ∃ p, rdL s.data.toList 1 p2.2.1 p2.2.2 = p := ⟨_, rfl⟩
  obtain ⟨p4, q4⟩ : ∃ p, rdL s.data.toList 1 p3.2.1 p3.2.2 = p := ⟨_, rfl⟩
  obtain ⟨p5, q5⟩ : ∃ p, rdL s.data.toList 1 p4.2.1 p4.2.2 = p := ⟨_, rfl⟩
  obtain ⟨f1, f2⟩ := rd5 q1 q2 q3 q4 q5
  have F1 := Lib.hid f1
  have F2 := Lib.hid f2
  have X1 := rInt_any hs ((b1.block R hlt).trans hR)
  rw [q1] at X1
  unfold IntOut at X1
  generalize p1.1.getD 0 0 = n1 at *
  have X1 := Lib.hid X1
  have Q2 := Lib.hid q2
  have Q3 := Lib.hid q3
  have Q4 := Lib.hid q4
  have Q5 := Lib.hid q5
  have H1 := Lib.hid h1
  clear e1 h1 hR f1 f2 q1 q2 q3 q4 q5
  go_enter Tryd.func34, Tryd.ntmps34
  go_wp2_with fail
  rw [E1.out]
  refine X1.out.mono ?_
  rintro e w2 ⟨rfl, r2, hW2⟩
  have X2 := rInt_any hs r2
  rw [Q2.out] at X2
  unfold IntOut at X2
  generalize p2.1.getD 0 0 = n2 at *
  have X2 := Lib.hid X2
  clear r2
  go_wp2_with fail
  refine X2.out.mono ?_
  rintro e w3 ⟨rfl, r3, hW3⟩
  have X3 := rInt_any hs r3
  rw [Q3.out] at X3
  unfold IntOut at X3
  generalize p3.1.getD 0 0 = n3 at *
  have X3 := Lib.hid X3
  clear r3
  go_wp2_with fail
  refine X3.out.mono ?_
  rintro e w4 ⟨rfl, r4, hW4⟩
  have X4 := rInt_any hs r4
  rw [Q4.out] at X4
  unfold IntOut at X4
  generalize p4.1.getD 0 0 = n4 at *
  have X4 := Lib.hid X4
  clear r4
  go_wp2_with fail
  refine X4.out.mono ?_
  rintro e w5 ⟨rfl, r5, hW5⟩
  have X5 := rInt_any hs r5
  rw [Q5.out] at X5
  unfold IntOut at X5
  generalize p5.1.getD 0 0 = n5 at *
  have X5 := Lib.hid X5
  clear r5
  go_wp2_with fail
  refine X5.out.mono ?_
  rintro e w6 ⟨rfl, r6, hW6⟩
  have R6 := Lib.hid r6
  have hWx := hW2.trans (hW3.trans (hW4.trans (hW5.trans hW6)))
  have hr6 := (hWx.other w.heap.size (by omega) (by omega) (by omega)).trans H1.out
  clear r6
  go_wp2_with (refine wpList_store_row rfl _ _ _ rfl w.heap.size (ordCells ⟨n1, n2, n3, n4, n5⟩) rfl rfl _ _ hr6 (by kernel_rfl) rfl (ord_one _) ?_)
  (try simp only [Exit.inBlock, Exit.then])
  have hW7 := (hW1.trans hWx).fresh ((Wrote.refl R w.heap.size w6).row (.inr rfl) (ordCells ⟨n1, n2, n3, n4, n5⟩)) (Nat.le_refl _)
  have r7 := (setRow_other w6 w.heap.size R (ordCells ⟨n1, n2, n3, n4, n5⟩) (by omega)).trans R6.out
  have t7 := setRow_heap w6 w.heap.size _ (ordCells ⟨n1, n2, n3, n4, n5⟩) _ _ hr6
  obtain ⟨k0, k1, k2, k3, k4⟩ := ord_cells t7
  refine bodyPost_ret (by simp [results, Tryd.results34, go_sem, k0, k1, k2, k3, k4]; rfl) rfl ⟨by rw [F1.out]; rfl, by rw [F2.out]; exact r7, hW7⟩

set_option maxRecDepth 100000 in
set_option maxHeartbeats 4000000 in
theorem rlogRef_any {R a : Nat} {b : Bool} {s : ByteArray} {w : World} (hs : s.size ≤ 1000000) (ha : a ≤ s.size) (hR : w.heap[R]? = some (.cells (rdCells s a b) 65 (0, 0))) :
    Calls Tryd.prog 33 #[.pointer (some ⟨R, 0, none⟩)] w fun e w' => ∃ v, e = .returned v ∧
      w'.ownsRow w.heap.size 30 6 v (rdEntL s.data.toList a b).1.length (entVals (rdEntL s.data.toList a b).1) ∧
      w'.heap[R]? = some (.cells (rdCells s (rdEntL s.data.toList a b).2.1 (rdEntL s.data.toList a b).2.2) 65 (0, 0)) ∧ Wrote R R w w' := by
  obtain ⟨i0, hi, hz0, hz1, hz2⟩ := info_parts info_ent
  have hlt := (Array.getElem?_eq_some_iff.1 hR).1
  have X1 := rInt_any (Nat.le_trans hs (by decide)) hR
  have hpos := rdL_pos (s := s.data.toList) 1 a b (by rw [bytes_len]; exact ha)
  rw [bytes_len] at hpos
  obtain ⟨-, hp2, -⟩ := hpos
  have hN := getD_i64 (rdL_i64 1 a b : ∀ n ∈ (rdL s.data.toList 1 a b).1, _) 0
  obtain ⟨E, hEd⟩ : ∃ E, rdEntL s.data.toList a b = E := ⟨_, rfl⟩
  rw [hEd]
  have HE := Lib.hid (show E = rdEnts s.data.toList ((rdL s.data.toList 1 a b).1.getD 0 0).toNat (rdL s.data.toList 1 a b).2.1 (rdL s.data.toList 1 a b).2.2 from hEd.symm)
  unfold IntOut at X1
  generalize (rdL s.data.toList 1 a b).1.getD 0 0 = N at *
  generalize (rdL s.data.toList 1 a b).2 = p at *
  have X1 := Lib.hid X1
  have HI := Lib.hid (And.intro hi (And.intro hz0 (And.intro hz1 hz2)))
  clear hEd hR hi hz0 hz1 hz2
  go_enter Tryd.func33, Tryd.ntmps33
  go_wp2_with fail
  refine X1.out.mono ?_
  rintro e w3 ⟨rfl, r3, hW3⟩
  have R3 := Lib.hid r3
  clear r3
  have hs3 := hW3.below.size
  go_wp2_with fail
  go_loopw [3, 5] (fun v p wr => ∃ (es : List Ent) (k : Nat) (a' : Nat) (b' : Bool), p = .int .i64 k ∧ wr.heap[R]? = some (.cells (rdCells s a' b') 65 (0, 0)) ∧
    wr.ownsRow w.heap.size 30 6 v es.length (entVals es) ∧ Wrote R R w wr ∧ a' ≤ s.size ∧ (b' = false → k ≤ a') ∧ k ≤ a' + 1 ∧ es.length = k ∧ (k : Int) ≤ max N 0 ∧
    E = (es ++ (rdEnts s.data.toList (N - k).toNat a' b').1, (rdEnts s.data.toList (N - k).toNat a' b').2)) (fun _ p _ => (N - intOf p).toNat)
  case atStart =>
    exact ⟨[], 0, p.1, p.2, rfl, R3.out, ⟨rfl, .inl ⟨rfl, rfl⟩⟩, hW3, hp2, by simp, by simp, rfl, by simp; omega, by rw [HE.out]; simp⟩
  case round =>
    obtain ⟨es, k, a', b', rfl, hR, hown, hW, ha', hc1, hc2, hk, hkN, hE⟩ := hrel
    obtain ⟨c0, c1, c2⟩ := rd_cells hR
    have HEE := Lib.hid hE
    have HR := Lib.hid hR
    have HO := Lib.hid hown
    have hWs := hW.below.size
    have HKN := Lib.hid hkN
    clear hE hR hown hkN
    by_cases hn0 : (k : Int) < N
    · have d1 : decide ((k : Int) < N) = true := decide_eq_true hn0
      cases b' with
      | true =>
        go_wp2
        go_ret
        rw [HEE.out, rdEnts_bad, List.append_nil]
        exact ⟨_, rfl, HO.out, HR.out, hW⟩
      | false =>
        have hk1 := hc1 rfl
        have XI := Lib.hid (rInt_any (Nat.le_trans hs (by decide)) HR.out)
        have hpos := rdEnt_pos (s := s.data.toList) (a := a') (b := false) (by rw [bytes_len]; exact ha')
        rw [bytes_len] at hpos
        obtain ⟨g1, g2, g3⟩ := hpos
        have HE2 := Lib.hid (show E = (es ++ [(rdEnt s.data.toList a' false).1] ++ (rdEnts s.data.toList (N - (k + 1 : Nat)).toNat (rdEnt s.data.toList a' false).2.1 (rdEnt s.data.toList a' false).2.2).1, (rdEnts s.data.toList (N - (k + 1 : Nat)).toNat (rdEnt s.data.toList a' false).2.1 (rdEnt s.data.toList a' false).2.2).2) by
          rw [HEE.out, show (N - k).toNat = (N - (k + 1 : Nat)).toNat + 1 by omega, rdEnts_good]; simp)
        clear hc1
        go_wp2_with fail
        refine XI.out.mono ?_
        rintro e w4 ⟨rfl, r4, hW4⟩
        have XO := Lib.hid (rordRef_any (Nat.le_trans hs (by decide)) r4)
        have HX := Lib.hid (show rdEnt s.data.toList a' false = (⟨(rdL s.data.toList 1 a' false).1.getD 0 0, rdOrd (rdL s.data.toList 5 (rdL s.data.toList 1 a' false).2.1 (rdL s.data.toList 1 a' false).2.2).1⟩, (rdL s.data.toList 5 (rdL s.data.toList 1 a' false).2.1 (rdL s.data.toList 1 a' false).2.2).2) from rfl)
        generalize rdL s.data.toList 5 (rdL s.data.toList 1 a' false).2.1 (rdL s.data.toList 1 a' false).2.2 = y at *
        generalize (rdL s.data.toList 1 a' false).1.getD 0 0 = n0 at *
        clear r4 c0 c1 c2
        go_wp2_with fail
        refine XO.out.mono ?_
        rintro e w5 ⟨rfl, r5, hW5⟩
        have hs4 := hW4.below.size
        have hs5 := hW5.below.size
        rw [HX.out] at HE2 g1 g2 g3
        generalize hO : rdOrd y.1 = o at *
        have hWx := hW.trans (hW4.trans hW5)
        obtain ⟨w6, e6, b6, s6, h6⟩ := boxed w5 (ordCells o) 24
        have E6 := Lib.hid (show w5.alloc (.cells #[.int .i64 o.id, .int .i64 o.stream, .int .i64 o.expect, .int .i64 o.kind, .int .i64 o.arg] 24) = w6 from e6)
        obtain ⟨k0, k1, k2, k3, k4⟩ := ord_cells h6
        have hW6 : Wrote R R w w6 := hWx.grew b6
        have R6 := Lib.hid ((b6.block R (by omega)).trans r5)
        have hown6 := owns_below (owns_wrote (owns_wrote HO.out hW4 (by omega)) hW5 (by omega)) b6
        have hes : es.length ≤ 1000000 := by omega
        have hs6 := b6.size
        clear r5 e6 h6 hO s6
        simp only [ordCells]
        go_upto_region 8 with fail
        rw [E6.out]
        go_wp2_with (at_builtin; refine wpList_append_own _ rfl _ _ 22 rfl w.heap.size 30 i0 (.agg (entCells noEnt)) 6 48 Tryd.underlying22 HI.out.1 HI.out.2.1 HI.out.2.2.1 HI.out.2.2.2 rfl (by decide) _ _ _ rfl (hown6.alloc _) ⟨w6.heap.size, 0, none⟩ 1 1 (entCells ⟨n0, o⟩).toList rfl rfl (ent_at _ ⟨n0, o⟩ _) (ent_one _) (by unfold maxLen; omega) (by omega) (by simp; omega) ?_)
        intro v' w7 hown7 hgr _
        have hownA := hown6.alloc (.cells (entCells ⟨n0, o⟩) 30)
        have r7 := ((grown_low hownA hgr (k := R) (by simp; omega) (by omega)).trans (((Below.refl _ _).alloc (Nat.le_refl _) _ : Below w6.heap.size w6 (w6.alloc (.cells (entCells ⟨n0, o⟩) 30))).block R (by omega))).trans R6.out
        have hW7 := wrote_grown (hW6.trans (Wrote.of_alloc _ _)) hownA hgr (Nat.le_refl _)
        have R7 := Lib.hid r7
        have O7 := Lib.hid hown7
        clear r7 hown7 hgr hownA hown6 k0 k1 k2 k3 k4
        go_wp2
        go_roundw
        case rel =>
          refine ⟨es ++ [⟨n0, o⟩], k + 1, y.2.1, y.2.2, by go_num, R7.out, ?_, hW7, g2, ?_, ?_, by simp [hk], ?_, HE2.out⟩
          · rw [entVals_more, List.length_append, List.length_singleton, hk]; exact O7.out
          · intro h; have := g3 h; omega
          · omega
          · have := HKN.out; omega
        case measure => simp [intOf]; omega
    · have d1 : decide ((k : Int) < N) = false := decide_eq_false hn0
      have hz : (N - k).toNat = 0 := by omega
      rw [hz] at HEE
      go_wp2
      go_ret
      rw [HEE.out]
      simp only [rdEnts, List.append_nil]
      exact ⟨_, rfl, HO.out, HR.out, hW⟩
end Go.Proofs.YtnekpehgaojkaaaDoor
