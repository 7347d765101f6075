/- The reader of packs: Ints. -/
import Derived.Test.YtnekpehgaojkaaaDoorC11a
import Derived.Laws.CopyOwn
namespace Go.Proofs.YtnekpehgaojkaaaDoor
open Go.RowKit

/-- So many ints are read: those that are there; where; is one not there. -/
def rdL (s : List UInt8) : Nat → Nat → Bool → List Int × Nat × Bool
  | 0, a, b => ([], a, b)
  | k + 1, a, b => if b then ([], a, true) else match getI s a with
    | none => ([], a, true)
    | some (n, m) => (n :: (rdL s k m false).1, (rdL s k m false).2)
theorem rdL_bad (s : List UInt8) (k a : Nat) : rdL s k a true = ([], a, true) := by cases k <;> simp [rdL]
theorem rdL_none {s : List UInt8} {k a : Nat} (h : getI s a = none) (b : Bool) : rdL s (k + 1) a b = ([], a, true) := by cases b <;> simp [rdL, h]
theorem rdL_some {s : List UInt8} {k a m : Nat} {n : Int} (h : getI s a = some (n, m)) : rdL s (k + 1) a false = (n :: (rdL s k m false).1, (rdL s k m false).2) := by simp [rdL, h]
theorem rdL_len (s : List UInt8) : ∀ (k a : Nat) (b : Bool), (rdL s k a b).1.length ≤ k
  | 0, _, _ => by simp [rdL]
  | k + 1, a, b => by
    cases b
    · cases h : getI s a with
      | none => rw [rdL_none h]; simp
      | some x => obtain ⟨n, m⟩ := x; rw [rdL_some h]; have := rdL_len s k m false; simp; omega
    · rw [rdL_bad]; simp
theorem rdL_good (s : List UInt8) : ∀ (k a : Nat) (b : Bool), (rdL s k a b).2.2 = false → (rdL s k a b).1.length = k
  | 0, _, _, _ => by simp [rdL]
  | k + 1, a, b, h => by
    cases b
    · cases hg : getI s a with
      | none => rw [rdL_none hg] at h; simp at h
      | some x => obtain ⟨n, m⟩ := x; rw [rdL_some hg] at h ⊢; simp [rdL_good s k m false h]
    · rw [rdL_bad] at h; simp at h

/-- Of the blocks that were, two at most are written. -/
structure Wrote (R T : Nat) (w w' : World) : Prop where
  below : Below 0 w w'
  other : ∀ k, k < w.heap.size → k ≠ R → k ≠ T → w'.heap[k]? = w.heap[k]?
theorem Wrote.refl (R T : Nat) (w : World) : Wrote R T w w := ⟨Below.refl _ _, fun _ _ _ _ => rfl⟩
theorem Wrote.trans {R T : Nat} {a b c : World} (h : Wrote R T a b) (k : Wrote R T b c) : Wrote R T a c :=
  ⟨h.below.trans k.below, fun i hi h1 h2 => (k.other i (Nat.lt_of_lt_of_le hi h.below.size) h1 h2).trans (h.other i hi h1 h2)⟩
theorem Wrote.drewN {R T : Nat} {w w' : World} (h : Wrote R T w w') (d : Nat) : Wrote R T w (w'.drewN d) := ⟨below_drewN h.below d, h.other⟩
theorem Wrote.row {R T g : Nat} {w w' : World} (h : Wrote R T w w') (hg : g = R ∨ g = T) (cs : Array Value) : Wrote R T w (w'.setRow g cs) :=
  ⟨below_setRow h.below (Nat.zero_le _) cs, fun k hk h1 h2 => by rw [setRow_other _ _ _ _ (by rintro rfl; rcases hg with rfl | rfl <;> contradiction)]; exact h.other k hk h1 h2⟩
theorem Wrote.toBelow {R T B : Nat} {w w' : World} (h : Wrote R T w w') (hB : B ≤ w.heap.size) (h1 : B ≤ R) (h2 : B ≤ T) : Below B w w' :=
  ⟨h.below.os, h.below.tape, h.below.output, h.below.size, fun k hk => h.other k (by omega) (by omega) (by omega)⟩
/-- Cells, with ints at some places. -/
def putAt (cs : Array Value) : List Nat → List Int → Array Value
  | o :: os, n :: ns => putAt (cs.setIfInBounds o (.int .i64 n)) os ns
  | _, _ => cs
theorem putAt_size : ∀ (cs : Array Value) (os : List Nat) (ns : List Int), (putAt cs os ns).size = cs.size
  | _, [], _ => by simp [putAt]
  | _, _ :: _, [] => by simp [putAt]
  | cs, o :: os, n :: ns => by simp [putAt, putAt_size _ os ns]
theorem putAt_more : ∀ (cs : Array Value) (os : List Nat) (ns : List Int) (n : Int) (h : ns.length < os.length), putAt cs os (ns ++ [n]) = (putAt cs os ns).setIfInBounds os[ns.length] (.int .i64 n)
  | cs, o :: os, [], n, h => by simp [putAt]
  | cs, o :: os, m :: ns, n, h => by simp [putAt, putAt_more _ os ns n (by simpa using h)]
theorem putAt_int : ∀ (cs : Array Value) (os : List Nat) (ns : List Int) (_ : ∀ o ∈ os, ∃ x, cs[o]? = some (.int .i64 x)), ∀ o ∈ os, ∃ x, (putAt cs os ns)[o]? = some (.int .i64 x) := by
  have key : ∀ (ns : List Int) (os : List Nat) (cs : Array Value) (q : Nat), (∃ x, cs[q]? = some (.int .i64 x)) → ∃ x, (putAt cs os ns)[q]? = some (.int .i64 x) := by
    intro ns
    induction ns with
    | nil => intro os cs q h; cases os <;> simpa [putAt] using h
    | cons n ns ih =>
      intro os cs q h
      cases os with
      | nil => simpa [putAt] using h
      | cons o os =>
        refine ih os _ q ?_
        obtain ⟨x, hx⟩ := h
        have hlt := (Array.getElem?_eq_some_iff.1 hx).1
        by_cases e : o = q
        · subst e; exact ⟨n, by simp [hlt]⟩
        · exact ⟨x, by rw [Array.getElem?_setIfInBounds_ne e]; exact hx⟩
  exact fun cs os ns h o ho => key ns os cs o (h o ho)

def rdCells (s : ByteArray) (a : Nat) (b : Bool) : Array Value := #[.string s, .int .i64 a, .bool b]
theorem rd_cells {w : World} {R a : Nat} {b : Bool} {s : ByteArray} {t : TypeId} (h : w.heap[R]? = some (.cells (rdCells s a b) t (0, 0))) :
    w.cell? ⟨R, 0, none⟩ = some (.string s) ∧ w.cell? ⟨R, 1, none⟩ = some (.int .i64 a) ∧ w.cell? ⟨R, 2, none⟩ = some (.bool b) := by
  refine ⟨?_, ?_, ?_⟩ <;> simp [World.cell?, h, rdCells]

theorem get_q1 {s : ByteArray} {a n : Int} {m : Nat} (hs : s.size ≤ maxLen) (h : getI s.data.toList a = some (n, m)) (w : World) :
    Calls Tryd.prog 49 #[.string s, .int .i64 a] w fun e w' => e = .returned (.tuple #[.int .i64 n, .int .i64 (m : Int), .bool true]) ∧ w' = w := (get_yes hs h w).mono fun _ _ h => ⟨h.1, h.2.symm⟩
theorem get_q0 {s : ByteArray} {a : Int} (hs : s.size ≤ maxLen) (h : getI s.data.toList a = none) (w : World) :
    Calls Tryd.prog 49 #[.string s, .int .i64 a] w fun e w' => e = .returned (.tuple #[.int .i64 0, .int .i64 0, .bool false]) ∧ w' = w := (get_no hs h w).mono fun _ _ h => ⟨h.1, h.2.symm⟩
theorem get_q {s : ByteArray} {a : Int} (hs : s.size ≤ maxLen) : ∃ n m b, ∀ w : World, Calls Tryd.prog 49 #[.string s, .int .i64 a] w fun e w' => e = .returned (.tuple #[.int .i64 n, .int .i64 m, .bool b]) ∧ w' = w :=
  ⟨_, _, _, fun w => (get_any s hs a w).mono fun _ _ h => ⟨h.1, h.2.symm⟩⟩

theorem rd_setBad {R T a q : Nat} {b c : Bool} {s : ByteArray} {w0 w : World} {t : TypeId} (h : w.heap[R]? = some (.cells (rdCells s a b) t (0, 0))) (hW : Wrote R T w0 w) :
    ((w.drewN q).setCell ⟨R, 2, none⟩ (.bool c)).heap[R]? = some (.cells (rdCells s a c) t (0, 0)) ∧ (∀ k, k ≠ R → ((w.drewN q).setCell ⟨R, 2, none⟩ (.bool c)).heap[k]? = w.heap[k]?) ∧ Wrote R T w0 ((w.drewN q).setCell ⟨R, 2, none⟩ (.bool c)) := by
  have h' : (w.drewN q).heap[R]? = some (.cells (rdCells s a b) t (0, 0)) := h
  rw [setCell_eq_setRow _ R 2 _ t _ _ h']
  exact ⟨setRow_heap _ _ _ _ _ _ h', fun k hk => setRow_other _ _ _ _ hk, (hW.drewN q).row (.inl rfl) _⟩
theorem rd_setAt {R T a m : Nat} {b : Bool} {s : ByteArray} {w0 w : World} {t : TypeId} (h : w.heap[R]? = some (.cells (rdCells s a b) t (0, 0))) (hW : Wrote R T w0 w) :
    (w.setCell ⟨R, 1, none⟩ (.int .i64 m)).heap[R]? = some (.cells (rdCells s m b) t (0, 0)) ∧ (∀ k, k ≠ R → (w.setCell ⟨R, 1, none⟩ (.int .i64 m)).heap[k]? = w.heap[k]?) ∧ Wrote R T w0 (w.setCell ⟨R, 1, none⟩ (.int .i64 m)) := by
  rw [setCell_eq_setRow _ R 1 _ t _ _ h]
  exact ⟨setRow_heap _ _ _ _ _ _ h, fun k hk => setRow_other _ _ _ _ hk, hW.row (.inl rfl) _⟩
theorem rd_setTo {R T o : Nat} {cs : Array Value} {v : Value} {w0 w : World} {t : TypeId} (h : w.heap[T]? = some (.cells cs t (0, 0))) (hW : Wrote R T w0 w) :
    (w.setCell ⟨T, o, none⟩ v).heap[T]? = some (.cells (cs.setIfInBounds o v) t (0, 0)) ∧ (∀ k, k ≠ T → (w.setCell ⟨T, o, none⟩ v).heap[k]? = w.heap[k]?) ∧ Wrote R T w0 (w.setCell ⟨T, o, none⟩ v) := by
  rw [setCell_eq_setRow _ T o _ t _ _ h]
  exact ⟨setRow_heap _ _ _ _ _ _ h, fun k hk => setRow_other _ _ _ _ hk, hW.row (.inr rfl) _⟩

theorem thawed {w : World} {g : Nat} {cs : Array Value} {t : TypeId} (h : w.heap[g]? = some (.cells cs t (0, 0))) (o : Nat) : w.frozen? ⟨g, o, none⟩ = false := by
  simp [World.frozen?, h]
set_option maxRecDepth 100000 in
set_option maxHeartbeats 2000000 in
theorem rints_any {R T g off cap a : Nat} {b : Bool} {s : ByteArray} {w : World} {cs : Array Value} {t : TypeId} {os : List Nat} (hs : s.size ≤ maxLen)
    (hR : w.heap[R]? = some (.cells (rdCells s a b) 58 (0, 0))) (hT : w.heap[T]? = some (.cells cs t (0, 0))) (hRT : R ≠ T) (hg : g < w.heap.size) (hgR : g ≠ R) (hgT : g ≠ T)
    (ho : ∀ o ∈ os, ∃ x, cs[o]? = some (.int .i64 x)) (hl : os.length ≤ 100)
    (hc : ∀ j (h : j < os.length), w.cell? ⟨g, off + j, none⟩ = some (.pointer (some ⟨T, os[j], none⟩))) :
    Calls Tryd.prog 28 #[.pointer (some ⟨R, 0, none⟩), .slice (some ⟨g, off, none⟩) os.length cap] w fun e w' => e = .returned (.tuple #[]) ∧
      w'.heap[R]? = some (.cells (rdCells s (rdL s.data.toList os.length a b).2.1 (rdL s.data.toList os.length a b).2.2) 58 (0, 0)) ∧ w'.heap[T]? = some (.cells (putAt cs os (rdL s.data.toList os.length a b).1) t (0, 0)) ∧ Wrote R T w w' := by
  have HC := Lib.hid hc
  have HO := Lib.hid ho
  have HR := Lib.hid hR
  have HT := Lib.hid hT
  clear hc ho hR hT
  go_enter Tryd.func28, Tryd.ntmps28
  go_wp2_with fail
  go_loopw [11] (fun p wr => ∃ (k a' : Nat) (b' : Bool) (ns : List Int), k ≤ os.length ∧ p = .int .i64 k ∧ ns.length = k ∧ rdL s.data.toList os.length a b = (ns ++ (rdL s.data.toList (os.length - k) a' b').1, (rdL s.data.toList (os.length - k) a' b').2) ∧
    wr.heap[R]? = some (.cells (rdCells s a' b') 58 (0, 0)) ∧ wr.heap[T]? = some (.cells (putAt cs os ns) t (0, 0)) ∧ Wrote R T w wr) (fun p _ => os.length - (intOf p).toNat)
  case atStart => exact ⟨0, a, b, [], by omega, rfl, rfl, by simp, HR.out, by simpa [putAt] using HT.out, Wrote.refl _ _ _⟩
  case round =>
    obtain ⟨k, a', b', ns, hk, rfl, hn, he, hR, hT, hW⟩ := hrel
    by_cases hlt : k < os.length
    · have hx : wr.cell? ⟨g, off + k, none⟩ = some (.pointer (some ⟨T, os[k], none⟩)) := (World.cell?_of_block (w := w) (hW.other g hg hgR hgT)).trans (HC.out k hlt)
      obtain ⟨c0, c1, c2⟩ := rd_cells hR
      have HE := Lib.hid he
      have HRR := Lib.hid hR
      have HTT := Lib.hid hT
      obtain ⟨x0, hx0⟩ := putAt_int cs os ns HO.out _ (List.getElem_mem hlt)
      have ct : wr.cell? ⟨T, os[k], none⟩ = some (.int .i64 x0) := by simpa [World.cell?, hT] using hx0
      have f1 := thawed hR 1
      have f2 := thawed hR 2
      have f3 := thawed hT os[k]
      have hTR : T ≠ R := hRT.symm
      obtain ⟨j, hj⟩ := Nat.exists_eq_add_of_lt hlt
      have HJ := Lib.hid (show os.length - k = (os.length - (k + 1)) + 1 by omega)
      clear he hR hT hx0 hj
      cases b' with
      | true =>
        obtain ⟨q1, q2, q3, hG⟩ := get_q (s := s) (a := (a' : Int)) hs
        have HG := Lib.hid hG
        clear hG
        go_wp2_with fail
        go_quiet ((go_at_call 49; exact Calls.quiet_of_same (HG.out _)))
        go_wp2
        refine bodyPost_ret (results_none rfl _ _ _) rfl ?_
        rw [HE.out, rdL_bad]
        obtain ⟨r1, r2, r3⟩ := rd_setBad (c := true) (q := nq) HRR.out hW
        exact ⟨rfl, r1, by rw [r2 _ hTR, List.append_nil]; exact HTT.out, r3⟩
      | false =>
        rcases hgi : getI s.data.toList a' with _ | ⟨n, m⟩
        · have HGI := Lib.hid hgi
          have HG := Lib.hid (get_q0 hs hgi)
          clear hgi
          go_wp2_with fail
          go_quiet ((go_at_call 49; exact Calls.quiet_of_same (HG.out _)))
          go_wp2
          refine bodyPost_ret (results_none rfl _ _ _) rfl ?_
          rw [HE.out, HJ.out, rdL_none HGI.out]
          obtain ⟨r1, r2, r3⟩ := rd_setBad (c := true) (q := nq) HRR.out hW
          exact ⟨rfl, r1, by rw [r2 _ hTR, List.append_nil]; exact HTT.out, r3⟩
        · have HGI := Lib.hid hgi
          have HG := Lib.hid (get_q1 hs hgi)
          clear hgi
          go_wp2_with fail
          go_quiet ((go_at_call 49; exact Calls.quiet_of_same (HG.out _)))
          go_wp2
          go_roundw
          case rel =>
            obtain ⟨r1, r2, r3⟩ := rd_setBad (c := false) (q := nq) HRR.out hW
            obtain ⟨t1, t2, t3⟩ := rd_setTo (o := os[k]) (v := .int .i64 n) ((r2 _ hTR).trans HTT.out) r3
            obtain ⟨u1, u2, u3⟩ := rd_setAt (m := m) ((t2 _ hRT).trans r1) t3
            refine ⟨k + 1, m, false, ns ++ [n], by omega, by go_num, by simp [hn], ?_, u1, ?_, u3⟩
            · rw [HE.out, HJ.out, rdL_some HGI.out]; simp
            · subst hn
              rw [putAt_more _ _ _ _ hlt]; exact (u2 _ hTR).trans t1
          case measure => simp [intOf]; omega
    · obtain rfl : k = os.length := by omega
      have HE := Lib.hid he
      have HRR := Lib.hid hR
      have HTT := Lib.hid hT
      clear he hR hT
      go_wp2
      go_end0
      rw [HE.out, Nat.sub_self]
      simp only [rdL, List.append_nil]
      exact ⟨trivial, HRR.out, HTT.out, hW⟩
end Go.Proofs.YtnekpehgaojkaaaDoor
