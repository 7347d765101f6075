/- The reference of layer 10, for layer 11: Epoch, Stream, Log, May, Check. -/
import Derived.Test.YtnekpehgaojkaaaDoorC11o
namespace Go.Proofs.YtnekpehgaojkaaaDoor
open Go.RowKit

theorem mayB_eq (a b c d e : Int) : mayB ⟨a, b, c, d, e⟩ = (((((((((decide (1 ≤ a) && decide (a ≤ 2147483647)) && decide (0 ≤ b)) && decide (b < 4)) && decide (-1 ≤ c)) && decide (c ≤ 2147483647)) && decide (1 ≤ d)) && decide (d ≤ 4)) && decide (-1048576 ≤ e)) && decide (e ≤ 1048576)) := by
  have h : decide (b < 4) = decide (b ≤ 3) := by rw [decide_eq_decide]; omega
  rw [h]
  simp only [mayB, inField, least, most, Bool.and_assoc]
set_option maxRecDepth 100000 in
set_option maxHeartbeats 4000000 in
theorem refMayO_any (a b c d e : Int) (w : World) :
    Calls Tryd.prog 47 #[.agg #[.int .i64 a, .int .i64 b, .int .i64 c, .int .i64 d, .int .i64 e]] w fun r w' => r = .returned (.bool (mayB ⟨a, b, c, d, e⟩)) ∧ Below w.heap.size w w' := by
  have HM := Lib.hid (mayB_eq a b c d e)
  have hb1 : Below w.heap.size w (w.alloc (.cells #[.int .i64 a, .int .i64 b, .int .i64 c, .int .i64 d, .int .i64 e] 24)) := (Below.refl _ _).alloc (Nat.le_refl _) _
  go_enter Tryd.func47, Tryd.ntmps47
  go_wp2
  all_goals
    go_ret
    exact ⟨ret_bool (by rw [HM.out]; rw [Bool.eq_iff_iff]; simp only [Bool.and_eq_true, decide_eq_true_eq, Bool.false_eq_true, false_iff]; omega), hb1⟩
theorem refMayO_is (o : Ord) (w : World) :
    Calls Tryd.prog 47 #[.agg #[.int .i64 o.id, .int .i64 o.stream, .int .i64 o.expect, .int .i64 o.kind, .int .i64 o.arg]] w fun e w' => e = .returned (.bool (mayB o)) ∧ Below w.heap.size w w' :=
  refMayO_any o.id o.stream o.expect o.kind o.arg w
theorem refEpoch_any (n least : Int) (w : World) : Calls Tryd.prog 44 #[.int .i64 n, .int .i64 least] w fun e w' => e = .returned (.bool (within n least 1048576)) ∧ w = w' := by
  have HM := Lib.hid (show within n least 1048576 = (decide (least ≤ n) && decide (n ≤ 1048576)) from rfl)
  go_enter Tryd.func44, Tryd.ntmps44
  go_wp2
  all_goals
    go_ret
    exact ⟨ret_bool (by rw [HM.out]; rw [Bool.eq_iff_iff]; simp only [Bool.and_eq_true, decide_eq_true_eq, Bool.false_eq_true, false_iff]; omega), rfl⟩
theorem refStream_any (n : Int) (w : World) : Calls Tryd.prog 43 #[.int .i64 n] w fun e w' => e = .returned (.bool (within n 0 3)) ∧ w = w' := by
  have HM := Lib.hid (show within n 0 3 = (decide (0 ≤ n) && decide (n ≤ 3)) from rfl)
  go_enter Tryd.func43, Tryd.ntmps43
  go_wp2
  all_goals
    go_ret
    exact ⟨ret_bool (by rw [HM.out]; rw [Bool.eq_iff_iff]; simp only [Bool.and_eq_true, decide_eq_true_eq, Bool.false_eq_true, false_iff]; omega), rfl⟩

set_option maxRecDepth 100000 in
set_option maxHeartbeats 4000000 in
theorem refLog_any {B : Nat} {w : World} {ve : Value} {es : List Ent} (s m : Int) (he : EntsAt B w ve es) (hl : es.length ≤ 1000000) :
    Calls Tryd.prog 55 #[ve, .int .i64 s, .int .i64 m] w fun e w' => e = .returned (.bool (decide ((es.length : Int) ≤ m) && allGood s es)) ∧ Below w.heap.size w w' := by
  have HE := Lib.hid he
  obtain ⟨ae, ce, rfl, _⟩ := he
  by_cases hm : (es.length : Int) ≤ m
  · have HM := Lib.hid (decide_eq_true hm)
    go_enter Tryd.func55, Tryd.ntmps55
    go_wp2_with fail
    go_loopw [7] (fun p wr => ∃ k : Nat, k ≤ es.length ∧ p = .int .i64 k ∧ Below w.heap.size w wr ∧ allGood s (es.take k) = true) (fun p _ => es.length - (intOf p).toNat)
    case atStart => exact ⟨0, by omega, rfl, Below.refl _ _, rfl⟩
    case round =>
      obtain ⟨k, hk, rfl, hB, hG⟩ := hrel
      have hBs := hB.size
      by_cases hlt : k < es.length
      · obtain ⟨a1, c1, hva, hca⟩ := HE.out.below hB
        cases hva
        obtain ⟨b, off, rfl, hbl, _, hcell⟩ := hca (fun h => by rw [h] at hlt; simp at hlt)
        obtain ⟨x0, x1, x2, x3, x4, x5⟩ := hcell k hlt
        have HT := Lib.hid (good_take hG hlt)
        have HBad := Lib.hid (good_bad (s := s) hlt)
        clear hcell hca hG
        generalize es[k] = x at *
        have HG := Lib.hid (show entGood s x = (within x.epoch 1 1048576 && decide (x.ord.stream = s) && mayB x.ord) from rfl)
        have HF := Lib.hid (refEpoch_any x.epoch 1)
        have HO := Lib.hid (refMayO_is x.ord)
        generalize within x.epoch 1 1048576 = ep at *
        generalize mayB x.ord = my at *
        cases ep with
        | false =>
          go_wp2_with fail
          refine (HF.out _).mono ?_
          rintro e w2 ⟨rfl, rfl⟩
          go_wp2
          go_ret
          exact ⟨ret_bool (by rw [HBad.out (by rw [HG.out]; rfl)]; simp), hB⟩
        | true =>
          cases my with
          | false =>
            go_wp2_with fail
            refine (HF.out _).mono ?_
            rintro e w2 ⟨rfl, rfl⟩
            go_wp2_with fail
            refine (HO.out _).mono ?_
            rintro e w3 ⟨rfl, b3⟩
            go_wp2
            go_ret
            exact ⟨ret_bool (by rw [HBad.out (by rw [HG.out]; simp)]; simp), hB.trans (b3.mono hBs)⟩
          | true =>
            by_cases hs : x.ord.stream = s
            · have d3 : (x.ord.stream != s) = false := by rw [bne_eq_false_iff_eq]; exact hs
              have HS := Lib.hid (decide_eq_true hs)
              clear hs
              go_wp2_with fail
              refine (HF.out _).mono ?_
              rintro e w2 ⟨rfl, rfl⟩
              go_wp2_with fail
              refine (HO.out _).mono ?_
              rintro e w3 ⟨rfl, b3⟩
              have x2 := (b3.cell (p := ⟨b, off + k * 6 + 2, none⟩) hbl).trans x2
              go_wp2
              go_roundw
              case rel => exact ⟨k + 1, by omega, by go_num, hB.trans (b3.mono hBs), by rw [HT.out, HG.out, HS.out]; rfl⟩
              case measure => simp [intOf]; omega
            · have d3 : (x.ord.stream != s) = true := by rw [bne_iff_ne]; exact hs
              have HS := Lib.hid (decide_eq_false hs)
              clear hs
              go_wp2_with fail
              refine (HF.out _).mono ?_
              rintro e w2 ⟨rfl, rfl⟩
              go_wp2_with fail
              refine (HO.out _).mono ?_
              rintro e w3 ⟨rfl, b3⟩
              have x2 := (b3.cell (p := ⟨b, off + k * 6 + 2, none⟩) hbl).trans x2
              go_wp2
              go_ret
              exact ⟨ret_bool (by rw [HBad.out (by rw [HG.out, HS.out]; rfl)]; simp), hB.trans (b3.mono hBs)⟩
      · obtain rfl : k = es.length := by omega
        rw [List.take_length] at hG
        have HG := Lib.hid hG
        clear hG
        go_wp2
        go_ret
        exact ⟨ret_bool (by rw [HG.out, HM.out]; rfl), hB⟩
  · have HM := Lib.hid (decide_eq_false hm)
    go_enter Tryd.func55, Tryd.ntmps55
    go_wp2
    go_ret
    exact ⟨ret_bool (by rw [HM.out]; rfl), Below.refl _ _⟩
end Go.Proofs.YtnekpehgaojkaaaDoor
