/- The contracts of records: feed, bare. -/
import Derived.Test.YtalilifegclelaaC10d
import Derived.Test.YtalilifegclelaaC10f
namespace Go.Proofs.Ytalilifegclelaa
open Go.RowKit

theorem SptsAt.below {B : Nat} {w w' : World} {v : Value} {es : List Spt} (h : SptsAt B w v es) (hb : Below w.heap.size w w') : SptsAt B w' v es := by
  obtain ⟨a, cap, hv, hc⟩ := h
  refine ⟨a, cap, hv, fun hl => ?_⟩
  obtain ⟨b, off, ha, hlt, hs, hcell⟩ := hc hl
  exact ⟨b, off, ha, Nat.lt_of_lt_of_le hlt hb.size, hs.imp_right (fun hn cur fr => by rw [hb.block b hlt]; exact hn cur fr), fun j hj => sptAt_of (hcell j hj) (hb.block b hlt)⟩
/-- May a spot be? -/
def sptGood (x : Spt) : Bool := within x.stream 0 3 && decide (0 ≤ x.index) && decide (x.index < 64)
def allSpts (es : List Spt) : Bool := es.all sptGood
theorem spts_take {es : List Spt} {k : Nat} (h : allSpts (es.take k) = true) (hk : k < es.length) : allSpts (es.take (k + 1)) = sptGood es[k] := by
  unfold allSpts at *
  rw [List.take_succ_eq_append_getElem hk, List.all_append, h]
  simp
theorem spts_bad {es : List Spt} {k : Nat} (hk : k < es.length) (h : sptGood es[k] = false) : allSpts es = false := by
  unfold allSpts
  rw [List.all_eq_false]
  exact ⟨es[k], List.getElem_mem hk, by rw [h]; simp⟩

set_option maxRecDepth 100000 in
set_option maxHeartbeats 2000000 in
theorem feedFn_any {w : World} (x : Spt) :
    Calls Try.prog 59 #[.agg #[.int .i64 x.stream, .int .i64 x.index]] w fun e w' => e = .returned (.bool (!sptGood x)) ∧ Below w.heap.size w w' := by
  obtain ⟨w1, e1, b1, s1, h1⟩ := boxed w (sptCells x) 32
  have E1 := Lib.hid (show w.alloc (.cells #[.int .i64 x.stream, .int .i64 x.index] 32) = w1 from e1)
  obtain ⟨c0, c1⟩ := spt_cells h1
  have HS := Lib.hid (stream_any x.stream)
  have HG := Lib.hid (show sptGood x = (within x.stream 0 3 && decide (0 ≤ x.index) && decide (x.index < 64)) from rfl)
  clear e1 h1
  generalize within x.stream 0 3 = st at *
  generalize sptGood x = good at *
  cases st with
  | false =>
    go_enter Try.func59, Try.ntmps59
    go_wp2_with fail
    rw [E1.out]
    refine (HS.out _).mono ?_
    rintro e w2 ⟨rfl, rfl⟩
    go_wp2
    go_ret
    exact ⟨ret_bool (by rw [HG.out]; rfl), b1⟩
  | true =>
    by_cases h0 : x.index < 0
    · have HN := Lib.hid (show decide (0 ≤ x.index) = false from decide_eq_false (by omega))
      go_enter Try.func59, Try.ntmps59
      go_wp2_with fail
      rw [E1.out]
      refine (HS.out _).mono ?_
      rintro e w2 ⟨rfl, rfl⟩
      go_wp2
      go_ret
      exact ⟨ret_bool (by rw [HG.out, HN.out]; rfl), b1⟩
    · have d0 : decide (x.index < 0) = false := decide_eq_false h0
      have HN := Lib.hid (show decide (0 ≤ x.index) = true from decide_eq_true (by omega))
      by_cases h6 : x.index < 64
      · have HM := Lib.hid (show decide (x.index < 64) = true from decide_eq_true h6)
        have d6 : decide (64 ≤ x.index) = false := decide_eq_false (by omega)
        go_enter Try.func59, Try.ntmps59
        go_wp2_with fail
        rw [E1.out]
        refine (HS.out _).mono ?_
        rintro e w2 ⟨rfl, rfl⟩
        go_wp2
        go_ret
        exact ⟨ret_bool (by rw [HG.out, HN.out, HM.out]; rfl), b1⟩
      · have HM := Lib.hid (show decide (x.index < 64) = false from decide_eq_false h6)
        have d6 : decide (64 ≤ x.index) = true := decide_eq_true (by omega)
        go_enter Try.func59, Try.ntmps59
        go_wp2_with fail
        rw [E1.out]
        refine (HS.out _).mono ?_
        rintro e w2 ⟨rfl, rfl⟩
        go_wp2
        go_ret
        exact ⟨ret_bool (by rw [HG.out, HN.out, HM.out]; rfl), b1⟩

/-- What IndexFunc answers, of spots. -/
def IndexSpt (es : List Spt) (w : World) (e : Ending) (w' : World) : Prop := ∃ n : Int, e = .returned (.int .i64 n) ∧ decide (0 ≤ n) = (!allSpts es) ∧ Below w.heap.size w w'
set_option maxRecDepth 100000 in
set_option maxHeartbeats 4000000 in
theorem indexSpt_any {B : Nat} {w : World} {ve : Value} {es : List Spt} (he : SptsAt B w ve es) (hl : es.length ≤ 1000000) :
    Calls Try.prog 64 #[ve, .func (.func 59) #[] #[]] w (IndexSpt es w) := by
  have HE := Lib.hid he
  obtain ⟨ae, ce, rfl, _⟩ := he
  go_enter Try.func64, Try.ntmps64
  go_wp2_with fail
  go_loopw [8] (fun p wr => ∃ k : Nat, k ≤ es.length ∧ p = .int .i64 k ∧ Below w.heap.size w wr ∧ allSpts (es.take k) = true) (fun p _ => es.length - (intOf p).toNat)
  case atStart => exact ⟨0, by omega, rfl, Below.refl _ _, rfl⟩
  case round =>
    obtain ⟨k, hk, rfl, hB, hG⟩ := hrel
    have hBs := hB.size
    by_cases hlt : k < es.length
    · obtain ⟨a1, c1, hva, hca⟩ := HE.out.below hB
      cases hva
      obtain ⟨b, off, rfl, hbl, _, hcell⟩ := hca (fun h => by rw [h] at hlt; simp at hlt)
      obtain ⟨x0, x1⟩ := hcell k hlt
      have HT := Lib.hid (spts_take hG hlt)
      have HBad := Lib.hid (spts_bad hlt)
      generalize es[k] = x at *
      have HF := Lib.hid (feedFn_any (w := wr) x)
      clear hcell hca hG
      generalize sptGood x = g at *
      cases g with
      | true =>
        go_wp2_with fail
        refine HF.out.mono ?_
        rintro e w2 ⟨rfl, b2⟩
        go_wp2
        go_roundw
        case rel => exact ⟨k + 1, by omega, by go_num, hB.trans (b2.mono hBs), HT.out⟩
        case measure => simp [intOf]; omega
      | false =>
        have HB3 := Lib.hid (show decide (0 ≤ (k : Int)) = (!allSpts es) by rw [HBad.out rfl]; simp)
        clear HBad
        go_wp2_with fail
        refine HF.out.mono ?_
        rintro e w2 ⟨rfl, b2⟩
        go_wp2
        go_ret
        exact ⟨(k : Int), rfl, HB3.out, hB.trans (b2.mono hBs)⟩
    · obtain rfl : k = es.length := by omega
      rw [List.take_length] at hG
      have HG := Lib.hid hG
      clear hG
      go_wp2
      go_ret
      exact ⟨-1, rfl, by rw [HG.out]; rfl, hB⟩
theorem containsSpt_any {B : Nat} {w : World} {ve : Value} {es : List Spt} (he : SptsAt B w ve es) (hl : es.length ≤ 1000000) :
    Calls Try.prog 58 #[ve, .func (.func 59) #[] #[]] w fun e w' => e = .returned (.bool (!allSpts es)) ∧ Below w.heap.size w w' := by
  have H := Lib.hid (indexSpt_any he hl)
  clear he
  go_enter Try.func58, Try.ntmps58
  go_wp2_with fail
  refine H.out.mono ?_
  rintro e w2 ⟨n, rfl, hn, b2⟩
  have HN := Lib.hid hn
  clear hn
  go_wp2
  go_ret
  exact ⟨ret_bool HN.out, b2⟩
/-- May a feed be? -/
def feedGood (es : List Spt) : Bool := decide (es.length ≤ 256) && allSpts es
theorem feed_any {B : Nat} {w : World} {ve : Value} {es : List Spt} (he : SptsAt B w ve es) (hl : es.length ≤ 1000000) :
    Calls Try.prog 45 #[ve] w fun e w' => e = .returned (.bool (feedGood es)) ∧ Below w.heap.size w w' := by
  have H := Lib.hid (containsSpt_any he hl)
  have HG := Lib.hid (show feedGood es = (decide (es.length ≤ 256) && allSpts es) from rfl)
  obtain ⟨ae, ce, rfl, _⟩ := he
  generalize feedGood es = g at *
  generalize allSpts es = g2 at *
  by_cases h : es.length ≤ 256
  · have HD := Lib.hid (show decide (es.length ≤ 256) = true from decide_eq_true h)
    go_enter Try.func45, Try.ntmps45
    go_wp2_with fail
    refine H.out.mono ?_
    rintro e w2 ⟨rfl, b2⟩
    go_wp2
    go_ret
    exact ⟨ret_bool (by rw [HG.out, HD.out]; simp), b2⟩
  · have HD := Lib.hid (show decide (es.length ≤ 256) = false from decide_eq_false h)
    have d : decide ((es.length : Int) ≤ 256) = false := by rw [decide_eq_false_iff_not]; omega
    go_enter Try.func45, Try.ntmps45
    go_wp2
    go_ret
    exact ⟨ret_bool (by rw [HG.out, HD.out]; simp), Below.refl _ _⟩

/-- A record's numbers. -/
structure RNum where
  kind : Int
  stream : Int
  epoch : Int
  view : Int
  frm : Int
  length : Int
def recCells (n : RNum) (ve vf : Value) : Array Value := #[.int .i64 n.kind, .int .i64 n.stream, .int .i64 n.epoch, .int .i64 n.view, .int .i64 n.frm, .int .i64 n.length, ve, vf]
theorem rec_cells {w : World} {B : Nat} {n : RNum} {ve vf : Value} {t : TypeId} (h : w.heap[B]? = some (.cells (recCells n ve vf) t (0, 0))) :
    w.cell? ⟨B, 0, none⟩ = some (.int .i64 n.kind) ∧ w.cell? ⟨B, 1, none⟩ = some (.int .i64 n.stream) ∧ w.cell? ⟨B, 2, none⟩ = some (.int .i64 n.epoch) ∧ w.cell? ⟨B, 3, none⟩ = some (.int .i64 n.view) ∧ w.cell? ⟨B, 4, none⟩ = some (.int .i64 n.frm) ∧ w.cell? ⟨B, 5, none⟩ = some (.int .i64 n.length) ∧ w.cell? ⟨B, 6, none⟩ = some ve ∧ w.cell? ⟨B, 7, none⟩ = some vf := by
  refine ⟨?_, ?_, ?_, ?_, ?_, ?_, ?_, ?_⟩ <;> simp [World.cell?, h, recCells]
def bareB (n : RNum) : Bool := n.epoch == 0 && n.view == 0 && n.frm == 0 && n.length == 0
set_option maxRecDepth 100000 in
set_option maxHeartbeats 4000000 in
theorem bare_any (n : RNum) (ae af : Option Addr) (le ce lf cf : Nat) (w : World) :
    Calls Try.prog 42 #[.agg #[.int .i64 n.kind, .int .i64 n.stream, .int .i64 n.epoch, .int .i64 n.view, .int .i64 n.frm, .int .i64 n.length, .slice ae le ce, .slice af lf cf]] w fun e w' => e = .returned (.bool (bareB n)) ∧ Below w.heap.size w w' := by
  obtain ⟨w1, e1, b1, s1, h1⟩ := boxed w (recCells n (.slice ae le ce) (.slice af lf cf)) 25
  have E1 := Lib.hid (show w.alloc (.cells #[.int .i64 n.kind, .int .i64 n.stream, .int .i64 n.epoch, .int .i64 n.view, .int .i64 n.frm, .int .i64 n.length, .slice ae le ce, .slice af lf cf] 25) = w1 from e1)
  obtain ⟨c0, c1, c2, c3, c4, c5, c6, c7⟩ := rec_cells h1
  have HG := Lib.hid (show bareB n = (n.epoch == 0 && n.view == 0 && n.frm == 0 && n.length == 0) from rfl)
  clear e1 h1
  generalize bareB n = g at *
  by_cases q0 : n.epoch = 0
  · have q0b : (n.epoch == 0) = true := by rw [beq_iff_eq]; exact q0
    have Q0 := Lib.hid q0b
    clear q0
    by_cases q1 : n.view = 0
    · have q1b : (n.view == 0) = true := by rw [beq_iff_eq]; exact q1
      have Q1 := Lib.hid q1b
      clear q1
      by_cases q2 : n.frm = 0
      · have q2b : (n.frm == 0) = true := by rw [beq_iff_eq]; exact q2
        have Q2 := Lib.hid q2b
        clear q2
        by_cases q3 : n.length = 0
        · have q3b : (n.length == 0) = true := by rw [beq_iff_eq]; exact q3
          have Q3 := Lib.hid q3b
          clear q3
          go_enter Try.func42, Try.ntmps42
          go_wp2_with fail
          rw [E1.out]
          go_wp2
          go_ret
          exact ⟨ret_bool (by rw [HG.out, Q0.out, Q1.out, Q2.out, Q3.out]; rfl), b1⟩
        · have q3b : (n.length == 0) = false := by rw [beq_eq_false_iff_ne]; exact q3
          have Q3 := Lib.hid q3b
          clear q3
          go_enter Try.func42, Try.ntmps42
          go_wp2_with fail
          rw [E1.out]
          go_wp2
          go_ret
          exact ⟨ret_bool (by rw [HG.out, Q0.out, Q1.out, Q2.out, Q3.out]; simp), b1⟩
      · have q2b : (n.frm == 0) = false := by rw [beq_eq_false_iff_ne]; exact q2
        have Q2 := Lib.hid q2b
        clear q2
        go_enter Try.func42, Try.ntmps42
        go_wp2_with fail
        rw [E1.out]
        go_wp2
        go_ret
        exact ⟨ret_bool (by rw [HG.out, Q0.out, Q1.out, Q2.out]; simp), b1⟩
    · have q1b : (n.view == 0) = false := by rw [beq_eq_false_iff_ne]; exact q1
      have Q1 := Lib.hid q1b
      clear q1
      go_enter Try.func42, Try.ntmps42
      go_wp2_with fail
      rw [E1.out]
      go_wp2
      go_ret
      exact ⟨ret_bool (by rw [HG.out, Q0.out, Q1.out]; simp), b1⟩
  · have q0b : (n.epoch == 0) = false := by rw [beq_eq_false_iff_ne]; exact q0
    have Q0 := Lib.hid q0b
    clear q0
    go_enter Try.func42, Try.ntmps42
    go_wp2_with fail
    rw [E1.out]
    go_wp2
    go_ret
    exact ⟨ret_bool (by rw [HG.out, Q0.out]; simp), b1⟩
end Go.Proofs.Ytalilifegclelaa
