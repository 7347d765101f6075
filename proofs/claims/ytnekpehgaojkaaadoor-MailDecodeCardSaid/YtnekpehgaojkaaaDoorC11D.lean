/- The reference's reader of marks: Int, Order. (Printed by wip/src/XC10D.py.) -/
import Derived.Test.YtnekpehgaojkaaaDoorC11z
namespace Go.Proofs.YtnekpehgaojkaaaDoor
open Go.RowKit

theorem wrote_row1 {R : Nat} {w0 w : World} (h : Wrote R R w0 w) (v : Value) (o : Nat) {cs : Array Value} {t : TypeId} (hR : w.heap[R]? = some (.cells cs t (0, 0))) :
    (w.setCell ⟨R, o, none⟩ v).heap[R]? = some (.cells (cs.setIfInBounds o v) t (0, 0)) ∧ Wrote R R w0 (w.setCell ⟨R, o, none⟩ v) := by
  rw [setCell_eq_setRow _ R o _ t _ _ hR]
  exact ⟨setRow_heap _ _ _ _ _ _ hR, h.row (.inl rfl) _⟩
theorem Wrote.grew {R : Nat} {w0 w w' : World} (h : Wrote R R w0 w) (hb : Below w.heap.size w w') : Wrote R R w0 w' :=
  ⟨h.below.trans (hb.mono (Nat.zero_le _)), fun k hk h1 h2 => (hb.block k (Nat.lt_of_lt_of_le hk h.below.size)).trans (h.other k hk h1 h2)⟩
theorem rdL1_some {s : List UInt8} {a m : Nat} {n : Int} (h : getI s a = some (n, m)) : rdL s 1 a false = ([n], m, false) := by rw [rdL_some h]; simp [rdL]

/-- What an int that is read leaves. -/
def IntOut (R : Nat) (s : ByteArray) (w : World) (x : List Int × Nat × Bool) (e : Ending) (w' : World) : Prop :=
  e = .returned (.int .i64 (x.1.getD 0 0)) ∧ w'.heap[R]? = some (.cells (rdCells s x.2.1 x.2.2) 65 (0, 0)) ∧ Wrote R R w w'

section
variable {R a m : Nat} {n : Int} {s : ByteArray} {w : World}
set_option maxRecDepth 100000 in
set_option maxHeartbeats 4000000 in
theorem rInt_bad (hs : s.size ≤ maxLen) (hg : getI s.data.toList a = none) (hR : w.heap[R]? = some (.cells (rdCells s a false) 65 (0, 0))) :
    Calls Tryd.prog 32 #[.pointer (some ⟨R, 0, none⟩)] w (IntOut R s w (rdL s.data.toList 1 a false)) := by
  obtain ⟨c0, c1, c2⟩ := rd_cells hR
  have hlt := World.block_lt_of_cell? w ⟨R, 0, none⟩ c0
  have HR := Lib.hid hR
  have HG := Lib.hid (refGet_no hs hg)
  have HX := Lib.hid (rdL_none (k := 0) hg false)
  clear hR hg
  go_enter Tryd.func32, Tryd.ntmps32
  go_wp2_with fail
  have k0 := cell_regrown c0
  have k1 := cell_regrown c1
  have k2 := cell_regrown c2
  refine wp_region_quiet_below (by kernel_rfl) (by kernel_rfl) ?_
  repeat (go_big_quiet_step ((go_at_call 50; exact Calls.regrown_of (HG.out _))))
  refine wpQuiet_nil ?_
  intro _ hw'
  obtain ⟨⟨dq, osq⟩, hw''⟩ := hw'
  subst hw''
  have hb4 := below_regrown w dq osq
  clear k0 k1 k2
  generalize Sort.grow (redrawn w dq) osq = wq at *
  have q0 := (hb4.cell (p := ⟨R, 0, none⟩) hlt).trans c0
  have q1 := (hb4.cell (p := ⟨R, 1, none⟩) hlt).trans c1
  have q2 := (hb4.cell (p := ⟨R, 2, none⟩) hlt).trans c2
  have hq := (hb4.block R hlt).trans HR.out
  have g1 := thawed hq 1
  have g2 := thawed hq 2
  obtain ⟨r1, r2⟩ := wrote_row1 (R := R) ((Wrote.refl R R w).grew hb4) (.bool true) 2 hq
  have RR := Lib.hid r1
  clear hq r1 c0 c1 c2
  go_wp2
  go_ret
  rw [HX.out]
  exact ⟨rfl, RR.out, r2⟩
set_option maxRecDepth 100000 in
set_option maxHeartbeats 4000000 in
theorem rInt_bad2 (hs : s.size ≤ maxLen) (hg : getI s.data.toList a = none) (hR : w.heap[R]? = some (.cells (rdCells s a true) 65 (0, 0))) :
    Calls Tryd.prog 32 #[.pointer (some ⟨R, 0, none⟩)] w (IntOut R s w (rdL s.data.toList 1 a true)) := by
  obtain ⟨c0, c1, c2⟩ := rd_cells hR
  have hlt := World.block_lt_of_cell? w ⟨R, 0, none⟩ c0
  have HR := Lib.hid hR
  have HG := Lib.hid (refGet_no hs hg)
  have HX := Lib.hid (rdL_none (k := 0) hg true)
  clear hR hg
  go_enter Tryd.func32, Tryd.ntmps32
  go_wp2_with fail
  have k0 := cell_regrown c0
  have k1 := cell_regrown c1
  have k2 := cell_regrown c2
  refine wp_region_quiet_below (by kernel_rfl) (by kernel_rfl) ?_
  repeat (go_big_quiet_step ((go_at_call 50; exact Calls.regrown_of (HG.out _))))
  refine wpQuiet_nil ?_
  intro _ hw'
  obtain ⟨⟨dq, osq⟩, hw''⟩ := hw'
  subst hw''
  have hb4 := below_regrown w dq osq
  clear k0 k1 k2
  generalize Sort.grow (redrawn w dq) osq = wq at *
  have q0 := (hb4.cell (p := ⟨R, 0, none⟩) hlt).trans c0
  have q1 := (hb4.cell (p := ⟨R, 1, none⟩) hlt).trans c1
  have q2 := (hb4.cell (p := ⟨R, 2, none⟩) hlt).trans c2
  have hq := (hb4.block R hlt).trans HR.out
  have g1 := thawed hq 1
  have g2 := thawed hq 2
  obtain ⟨r1, r2⟩ := wrote_row1 (R := R) ((Wrote.refl R R w).grew hb4) (.bool true) 2 hq
  have RR := Lib.hid r1
  clear hq r1 c0 c1 c2
  go_wp2
  go_ret
  rw [HX.out]
  exact ⟨rfl, RR.out, r2⟩
set_option maxRecDepth 100000 in
set_option maxHeartbeats 4000000 in
theorem rInt_was (hs : s.size ≤ maxLen) (hg : getI s.data.toList a = some (n, m)) (hR : w.heap[R]? = some (.cells (rdCells s a true) 65 (0, 0))) :
    Calls Tryd.prog 32 #[.pointer (some ⟨R, 0, none⟩)] w (IntOut R s w (rdL s.data.toList 1 a true)) := by
  obtain ⟨c0, c1, c2⟩ := rd_cells hR
  have hlt := World.block_lt_of_cell? w ⟨R, 0, none⟩ c0
  have HR := Lib.hid hR
  have HG := Lib.hid (refGet_yes hs hg)
  have HX := Lib.hid (rdL_bad s.data.toList 1 a)
  clear hR hg
  go_enter Tryd.func32, Tryd.ntmps32
  go_wp2_with fail
  have k0 := cell_regrown c0
  have k1 := cell_regrown c1
  have k2 := cell_regrown c2
  refine wp_region_quiet_below (by kernel_rfl) (by kernel_rfl) ?_
  repeat (go_big_quiet_step ((go_at_call 50; exact Calls.regrown_of (HG.out _))))
  refine wpQuiet_nil ?_
  intro _ hw'
  obtain ⟨⟨dq, osq⟩, hw''⟩ := hw'
  subst hw''
  have hb4 := below_regrown w dq osq
  clear k0 k1 k2
  generalize Sort.grow (redrawn w dq) osq = wq at *
  have q0 := (hb4.cell (p := ⟨R, 0, none⟩) hlt).trans c0
  have q1 := (hb4.cell (p := ⟨R, 1, none⟩) hlt).trans c1
  have q2 := (hb4.cell (p := ⟨R, 2, none⟩) hlt).trans c2
  have hq := (hb4.block R hlt).trans HR.out
  have g1 := thawed hq 1
  have g2 := thawed hq 2
  obtain ⟨r1, r2⟩ := wrote_row1 (R := R) ((Wrote.refl R R w).grew hb4) (.bool true) 2 hq
  have RR := Lib.hid r1
  clear hq r1 c0 c1 c2
  go_wp2
  go_ret
  rw [HX.out]
  exact ⟨rfl, RR.out, r2⟩
set_option maxRecDepth 100000 in
set_option maxHeartbeats 4000000 in
theorem rInt_good (hs : s.size ≤ maxLen) (hg : getI s.data.toList a = some (n, m)) (hR : w.heap[R]? = some (.cells (rdCells s a false) 65 (0, 0))) :
    Calls Tryd.prog 32 #[.pointer (some ⟨R, 0, none⟩)] w (IntOut R s w (rdL s.data.toList 1 a false)) := by
  obtain ⟨c0, c1, c2⟩ := rd_cells hR
  have hlt := World.block_lt_of_cell? w ⟨R, 0, none⟩ c0
  have HR := Lib.hid hR
  have HG := Lib.hid (refGet_yes hs hg)
  have HX := Lib.hid (rdL1_some hg)
  clear hR hg
  go_enter Tryd.func32, Tryd.ntmps32
  go_wp2_with fail
  have k0 := cell_regrown c0
  have k1 := cell_regrown c1
  have k2 := cell_regrown c2
  refine wp_region_quiet_below (by kernel_rfl) (by kernel_rfl) ?_
  repeat (go_big_quiet_step ((go_at_call 50; exact Calls.regrown_of (HG.out _))))
  refine wpQuiet_nil ?_
  intro _ hw'
  obtain ⟨⟨dq, osq⟩, hw''⟩ := hw'
  subst hw''
  have hb4 := below_regrown w dq osq
  clear k0 k1 k2
  generalize Sort.grow (redrawn w dq) osq = wq at *
  have q0 := (hb4.cell (p := ⟨R, 0, none⟩) hlt).trans c0
  have q1 := (hb4.cell (p := ⟨R, 1, none⟩) hlt).trans c1
  have q2 := (hb4.cell (p := ⟨R, 2, none⟩) hlt).trans c2
  have hq := (hb4.block R hlt).trans HR.out
  have g1 := thawed hq 1
  have g2 := thawed hq 2
  obtain ⟨r1, r2⟩ := wrote_row1 (R := R) ((Wrote.refl R R w).grew hb4) (.int .i64 m) 1 hq
  have RR := Lib.hid r1
  clear hq r1 c0 c1 c2
  go_wp2
  go_ret
  rw [HX.out]
  exact ⟨rfl, RR.out, r2⟩
theorem rInt_any {b : Bool} (hs : s.size ≤ maxLen) (hR : w.heap[R]? = some (.cells (rdCells s a b) 65 (0, 0))) :
    Calls Tryd.prog 32 #[.pointer (some ⟨R, 0, none⟩)] w (IntOut R s w (rdL s.data.toList 1 a b)) := by
  cases hg : getI s.data.toList a with
  | none =>
    cases b with
    | false => exact rInt_bad hs hg hR
    | true => exact rInt_bad2 hs hg hR
  | some x =>
    obtain ⟨n, m⟩ := x
    cases b with
    | false => exact rInt_good hs hg hR
    | true => exact rInt_was hs hg hR
end
end Go.Proofs.YtnekpehgaojkaaaDoor
