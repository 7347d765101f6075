/- Mail: what a message holds; epochs.sites, Majority; mail.from, told. -/
import Derived.Test.YtnekpehgaojkaaaDoorC11a
import Derived.Deep.DeepCutAuto
namespace Go.Proofs.YtnekpehgaojkaaaDoor
open Go.RowKit

structure Ans where
  id : Int
  code : Int
  ver : Int
def Ans.nums (a : Ans) : List Int := [a.id, a.code, a.ver]
def ansCells (a : Ans) : Array Value := #[.int .i64 a.id, .int .i64 a.code, .int .i64 a.ver]
theorem ans_cells {w : World} {B : Nat} {x : Ans} {t : TypeId} (h : w.heap[B]? = some (.cells (ansCells x) t (0, 0))) : w.cell? ⟨B, 0, none⟩ = some (.int .i64 x.id) ∧ w.cell? ⟨B, 1, none⟩ = some (.int .i64 x.code) ∧ w.cell? ⟨B, 2, none⟩ = some (.int .i64 x.ver) := by
  refine ⟨?_, ?_, ?_⟩ <;> simp [World.cell?, h, ansCells]
structure MNum where
  kind : Int
  frm : Int
  dst : Int
  stream : Int
  epoch : Int
  view : Int
  base : Int
  length : Int
  stamp : Int
  ord : Ord
  ans : Ans
def mailCells (m : MNum) (ve : Value) : Array Value := #[.int .i64 m.kind, .int .i64 m.frm, .int .i64 m.dst, .int .i64 m.stream, .int .i64 m.epoch, .int .i64 m.view, .int .i64 m.base, .int .i64 m.length, .int .i64 m.stamp, ve,
  .int .i64 m.ord.id, .int .i64 m.ord.stream, .int .i64 m.ord.expect, .int .i64 m.ord.kind, .int .i64 m.ord.arg, .int .i64 m.ans.id, .int .i64 m.ans.code, .int .i64 m.ans.ver]
/-- The eighteen cells of a message. -/
def mailAt (w : World) (g : Nat) (m : MNum) (ve : Value) : Prop :=
  w.cell? ⟨g, 0, none⟩ = some (.int .i64 m.kind) ∧ w.cell? ⟨g, 1, none⟩ = some (.int .i64 m.frm) ∧ w.cell? ⟨g, 2, none⟩ = some (.int .i64 m.dst) ∧ w.cell? ⟨g, 3, none⟩ = some (.int .i64 m.stream) ∧ w.cell? ⟨g, 4, none⟩ = some (.int .i64 m.epoch) ∧ w.cell? ⟨g, 5, none⟩ = some (.int .i64 m.view) ∧
  w.cell? ⟨g, 6, none⟩ = some (.int .i64 m.base) ∧ w.cell? ⟨g, 7, none⟩ = some (.int .i64 m.length) ∧ w.cell? ⟨g, 8, none⟩ = some (.int .i64 m.stamp) ∧ w.cell? ⟨g, 9, none⟩ = some ve ∧ w.cell? ⟨g, 10, none⟩ = some (.int .i64 m.ord.id) ∧ w.cell? ⟨g, 11, none⟩ = some (.int .i64 m.ord.stream) ∧
  w.cell? ⟨g, 12, none⟩ = some (.int .i64 m.ord.expect) ∧ w.cell? ⟨g, 13, none⟩ = some (.int .i64 m.ord.kind) ∧ w.cell? ⟨g, 14, none⟩ = some (.int .i64 m.ord.arg) ∧ w.cell? ⟨g, 15, none⟩ = some (.int .i64 m.ans.id) ∧ w.cell? ⟨g, 16, none⟩ = some (.int .i64 m.ans.code) ∧ w.cell? ⟨g, 17, none⟩ = some (.int .i64 m.ans.ver)
theorem mail_cells {w : World} {B : Nat} {m : MNum} {ve : Value} {t : TypeId} (h : w.heap[B]? = some (.cells (mailCells m ve) t (0, 0))) : mailAt w B m ve := by
  unfold mailAt
  refine ⟨?_, ?_, ?_, ?_, ?_, ?_, ?_, ?_, ?_, ?_, ?_, ?_, ?_, ?_, ?_, ?_, ?_, ?_⟩ <;> simp [World.cell?, h, mailCells]
theorem mailAt.of {w w' : World} {g : Nat} {m : MNum} {ve : Value} (h : mailAt w g m ve) (hc : ∀ o, w'.cell? ⟨g, o, none⟩ = w.cell? ⟨g, o, none⟩) : mailAt w' g m ve := by
  obtain ⟨h0, h1, h2, h3, h4, h5, h6, h7, h8, h9, h10, h11, h12, h13, h14, h15, h16, h17⟩ := h
  exact ⟨(hc _).trans h0, (hc _).trans h1, (hc _).trans h2, (hc _).trans h3, (hc _).trans h4, (hc _).trans h5, (hc _).trans h6, (hc _).trans h7, (hc _).trans h8, (hc _).trans h9, (hc _).trans h10, (hc _).trans h11, (hc _).trans h12, (hc _).trans h13, (hc _).trans h14, (hc _).trans h15, (hc _).trans h16, (hc _).trans h17⟩
theorem mailAt.below {w w' : World} {g : Nat} {m : MNum} {ve : Value} (h : mailAt w g m ve) (hg : g < w.heap.size) (hb : Below w.heap.size w w') : mailAt w' g m ve := h.of fun o => hb.cell (p := ⟨g, o, none⟩) hg
/-- The table of kinds lies there. -/
def KindsAt (w : World) : Prop := w.cell? ⟨0, 0, none⟩ = some (.int .i64 0) ∧ w.cell? ⟨0, 1, none⟩ = some (.int .i64 35) ∧ w.cell? ⟨0, 2, none⟩ = some (.int .i64 119) ∧ w.cell? ⟨0, 3, none⟩ = some (.int .i64 3) ∧ w.cell? ⟨0, 4, none⟩ = some (.int .i64 123) ∧ w.cell? ⟨0, 5, none⟩ = some (.int .i64 51) ∧
  w.cell? ⟨0, 6, none⟩ = some (.int .i64 19) ∧ w.cell? ⟨0, 7, none⟩ = some (.int .i64 128) ∧ w.cell? ⟨0, 8, none⟩ = some (.int .i64 257) ∧ w.cell? ⟨0, 9, none⟩ = some (.int .i64 3) ∧ w.cell? ⟨0, 10, none⟩ = some (.int .i64 3)
theorem KindsAt.below {w w' : World} {B : Nat} (h : KindsAt w) (hb : Below B w w') (hB : 0 < B) : KindsAt w' := by
  have hc : ∀ o, w'.cell? ⟨0, o, none⟩ = w.cell? ⟨0, o, none⟩ := fun o => hb.cell (p := ⟨0, o, none⟩) hB
  obtain ⟨h0, h1, h2, h3, h4, h5, h6, h7, h8, h9, h10⟩ := h
  exact ⟨(hc _).trans h0, (hc _).trans h1, (hc _).trans h2, (hc _).trans h3, (hc _).trans h4, (hc _).trans h5, (hc _).trans h6, (hc _).trans h7, (hc _).trans h8, (hc _).trans h9, (hc _).trans h10⟩
theorem KindsAt.pos {w : World} (h : KindsAt w) : 0 < w.heap.size := World.block_lt_of_cell? w ⟨0, 0, none⟩ h.1

theorem sites_any (n : Int) (w : World) : Calls Tryd.prog 35 #[.int .i64 n] w fun e w' => e = .returned (.bool (within n 2 7)) ∧ w = w' := by
  have HM := Lib.hid (show within n 2 7 = (decide (2 ≤ n) && decide (n ≤ 7)) from rfl)
  go_enter Tryd.func35, Tryd.ntmps35
  go_wp2
  all_goals
    go_ret
    exact ⟨ret_bool (by rw [HM.out]; rw [Bool.eq_iff_iff]; simp only [Bool.and_eq_true, decide_eq_true_eq, Bool.false_eq_true, false_iff]; omega), rfl⟩
/-- How many are a majority. -/
def majN (n : Int) : Int := if within n 2 7 then n / 2 + 1 else 0
theorem maj_any (n : Int) (w : World) : Calls Tryd.prog 17 #[.int .i64 n] w fun e w' => e = .returned (.int .i64 (majN n)) ∧ w = w' := by
  have HS := Lib.hid (sites_any n)
  cases h : within n 2 7 with
  | false =>
    have HM := Lib.hid (show majN n = 0 by unfold majN; rw [h]; rfl)
    rw [h] at HS
    clear h
    go_enter Tryd.func17, Tryd.ntmps17
    go_wp2_with fail
    refine (HS.out _).mono ?_
    rintro e w2 ⟨rfl, rfl⟩
    go_wp2
    go_ret
    exact ⟨by rw [HM.out]; rfl, rfl⟩
  | true =>
    have HM := Lib.hid (show majN n = n / 2 + 1 by unfold majN; rw [h]; rfl)
    have hn := within_iff.1 h
    have hq : n.tdiv 2 = n / 2 := Int.tdiv_eq_ediv_of_nonneg (by omega)
    have HQ := Lib.hid (show (0 : Int) ≤ n / 2 ∧ n / 2 ≤ 3 by omega)
    rw [h] at HS
    clear h
    go_enter Tryd.func17, Tryd.ntmps17
    go_wp2_with fail
    refine (HS.out _).mono ?_
    rintro e w2 ⟨rfl, rfl⟩
    obtain ⟨hq1, hq2⟩ := HQ.out
    go_wp2
    go_ret
    exact ⟨by rw [HM.out]; first | rfl | (congr 2; omega) | (rw [IntWalk.i64_in _ (by omega)]), rfl⟩
/-- Is it within, if it may be at all? -/
def fromB (h : Int) (x l m : Int) : Bool := if h = 0 then within x 0 0 else within x l m
theorem from_any (h x l m : Int) (w : World) : Calls Tryd.prog 37 #[.int .i64 h, .int .i64 x, .int .i64 l, .int .i64 m] w fun e w' => e = .returned (.bool (fromB h x l m)) ∧ w = w' := by
  by_cases hh : h = 0
  · subst hh
    have HM := Lib.hid (show fromB 0 x l m = (decide (0 ≤ x) && decide (x ≤ 0)) from rfl)
    go_enter Tryd.func37, Tryd.ntmps37
    go_wp2
    all_goals
      go_ret
      exact ⟨ret_bool (by rw [HM.out]; rw [Bool.eq_iff_iff]; simp only [Bool.and_eq_true, decide_eq_true_eq, Bool.false_eq_true, false_iff]; omega), rfl⟩
  · have HM := Lib.hid (show fromB h x l m = (decide (l ≤ x) && decide (x ≤ m)) by unfold fromB; rw [if_neg hh]; rfl)
    have d : (h == 0) = false := by rw [beq_eq_false_iff_ne]; exact hh
    clear hh
    go_enter Tryd.func37, Tryd.ntmps37
    go_wp2
    all_goals
      go_ret
      exact ⟨ret_bool (by rw [HM.out]; rw [Bool.eq_iff_iff]; simp only [Bool.and_eq_true, decide_eq_true_eq, Bool.false_eq_true, false_iff]; omega), rfl⟩
/-- May an answer be? -/
def toldB (a : Ans) : Bool := within a.id 1 2147483647 && (within a.code 1 7 && within a.ver 0 64)
theorem told_any (a : Ans) (w : World) : Calls Tryd.prog 39 #[.agg #[.int .i64 a.id, .int .i64 a.code, .int .i64 a.ver]] w fun e w' => e = .returned (.bool (toldB a)) ∧ Below w.heap.size w w' := by
  obtain ⟨w1, e1, b1, s1, h1⟩ := boxed w (ansCells a) 26
  have E1 := Lib.hid (show w.alloc (.cells #[.int .i64 a.id, .int .i64 a.code, .int .i64 a.ver] 26) = w1 from e1)
  obtain ⟨c0, c1, c2⟩ := ans_cells h1
  have HL := Lib.hid (length_any a.ver)
  have HM := Lib.hid (show toldB a = (within a.id 1 2147483647 && (within a.code 1 7 && within a.ver 0 64)) from rfl)
  clear e1 h1
  generalize within a.ver 0 64 = lv at *
  by_cases h1 : 1 ≤ a.id
  · by_cases h2 : a.id ≤ 2147483647
    · have F1 := Lib.hid (within_yes h1 h2)
      have d2 : decide (a.id ≤ 2147483647) = true := decide_eq_true h2
      have H2 := Lib.hid h2
      clear h2
      by_cases h3 : 1 ≤ a.code
      · by_cases h4 : a.code ≤ 7
        · have F2 := Lib.hid (within_yes h3 h4)
          go_enter Tryd.func39, Tryd.ntmps39
          go_wp2_with fail
          rw [E1.out]
          go_wp2_with fail
          refine (HL.out _).mono ?_
          rintro e w2 ⟨rfl, rfl⟩
          cases lv
          all_goals
            go_wp2
            go_ret
            exact ⟨ret_bool (by rw [HM.out, F1.out, F2.out]; rfl), b1⟩
        · have F2 := Lib.hid (within_no (a := 1) (.inr (show 7 < a.code by omega)))
          have d4 : decide (a.code ≤ 7) = false := decide_eq_false h4
          go_enter Tryd.func39, Tryd.ntmps39
          go_upto_region 1 with fail
          rw [E1.out]
          go_wp2
          go_ret
          exact ⟨ret_bool (by rw [HM.out, F1.out, F2.out]; rfl), b1⟩
      · have F2 := Lib.hid (within_no (b := 7) (.inl (show a.code < 1 by omega)))
        have d3 : decide (1 ≤ a.code) = false := decide_eq_false h3
        go_enter Tryd.func39, Tryd.ntmps39
        go_upto_region 1 with fail
        rw [E1.out]
        go_wp2
        go_ret
        exact ⟨ret_bool (by rw [HM.out, F1.out, F2.out]; rfl), b1⟩
    · have F1 := Lib.hid (within_no (a := 1) (.inr (show 2147483647 < a.id by omega)))
      have d2 : decide (a.id ≤ 2147483647) = false := decide_eq_false h2
      clear h2
      go_enter Tryd.func39, Tryd.ntmps39
      go_upto_region 1 with fail
      rw [E1.out]
      go_wp2
      go_ret
      exact ⟨ret_bool (by rw [HM.out, F1.out]; rfl), b1⟩
  · have F1 := Lib.hid (within_no (b := 2147483647) (.inl (show a.id < 1 by omega)))
    have d1 : decide (1 ≤ a.id) = false := decide_eq_false h1
    go_enter Tryd.func39, Tryd.ntmps39
    go_upto_region 1 with fail
    rw [E1.out]
    go_wp2
    go_ret
    exact ⟨ret_bool (by rw [HM.out, F1.out]; rfl), b1⟩
end Go.Proofs.YtnekpehgaojkaaaDoor
