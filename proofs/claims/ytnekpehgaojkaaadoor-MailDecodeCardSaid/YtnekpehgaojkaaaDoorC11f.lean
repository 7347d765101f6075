/- The contract of packs.Log. -/
import Derived.Test.YtnekpehgaojkaaaDoorC11e
namespace Go.Proofs.YtnekpehgaojkaaaDoor
open Go.RowKit

/-- Which entry is the first that may not be: none is. -/
def allGood (s : Int) (es : List Ent) : Bool := es.all (entGood s)
theorem good_take {s : Int} {es : List Ent} {k : Nat} (h : allGood s (es.take k) = true) (hk : k < es.length) : allGood s (es.take (k + 1)) = entGood s es[k] := by
  unfold allGood at *
  rw [List.take_succ_eq_append_getElem hk, List.all_append, h]
  simp
theorem good_bad {s : Int} {es : List Ent} {k : Nat} (hk : k < es.length) (h : entGood s es[k] = false) : allGood s es = false := by
  unfold allGood
  rw [List.all_eq_false]
  exact ⟨es[k], List.getElem_mem hk, by rw [h]; simp⟩
/-- What IndexFunc answers. -/
def IndexOf (s : Int) (es : List Ent) (w : World) (e : Ending) (w' : World) : Prop := ∃ n : Int, e = .returned (.int .i64 n) ∧ decide (0 ≤ n) = (!allGood s es) ∧ Below w.heap.size w w'

set_option maxRecDepth 100000 in
set_option maxHeartbeats 4000000 in
theorem indexEnt_any {B P : Nat} {w : World} {ve : Value} {es : List Ent} (s : Int) (hp : w.cell? ⟨P, 0, none⟩ = some (.int .i64 s)) (he : EntsAt B w ve es) (hl : es.length ≤ 1000000) :
    Calls Tryd.prog 57 #[ve, .func (.func 53) #[] #[.pointer (some ⟨P, 0, none⟩)]] w (IndexOf s es w) := by
  have hP : P < w.heap.size := World.block_lt_of_cell? w ⟨P, 0, none⟩ hp
  have HE := Lib.hid he
  obtain ⟨ae, ce, rfl, _⟩ := he
  go_enter Tryd.func57, Tryd.ntmps57
  go_wp2_with fail
  go_loopw [8] (fun p wr => ∃ k : Nat, k ≤ es.length ∧ p = .int .i64 k ∧ Below w.heap.size w wr ∧ allGood s (es.take k) = true) (fun p _ => es.length - (intOf p).toNat)
  case atStart => exact ⟨0, by omega, rfl, Below.refl _ _, rfl⟩
  case round =>
    obtain ⟨k, hk, rfl, hB, hG⟩ := hrel
    have hBs := hB.size
    by_cases hlt : k < es.length
    · obtain ⟨a1, c1, hva, hca⟩ := HE.out.below hB
      cases hva
      obtain ⟨b, off, rfl, hbl, _, hcell⟩ := hca (fun h => by rw [h] at hlt; simp at hlt)
      obtain ⟨x0, x1, x2, x3, x4, x5⟩ := hcell k hlt
      have hpr : wr.cell? ⟨P, 0, none⟩ = some (.int .i64 s) := (hB.cell (p := ⟨P, 0, none⟩) hP).trans hp
      have HT := Lib.hid (good_take hG hlt)
      have HBad := Lib.hid (good_bad (s := s) hlt)
      generalize es[k] = x at *
      have HF := Lib.hid (logFn_any s x hpr)
      clear hcell hca hG hpr
      generalize entGood s x = g at *
      cases g with
      | true =>
        go_wp2_with fail
        refine HF.out.mono ?_
        rintro e w2 ⟨rfl, b2⟩
        go_wp2
        go_roundw
        case rel => exact ⟨k + 1, by omega, by go_num, hB.trans (b2.mono hBs), HT.out⟩
        case measure => simp [intOf]; omega
      | false =>
        have HB3 := Lib.hid (show decide (0 ≤ (k : Int)) = (!allGood s es) by rw [HBad.out rfl]; simp)
        clear HBad
        go_wp2_with fail
        refine HF.out.mono ?_
        rintro e w2 ⟨rfl, b2⟩
        go_wp2
        go_ret
        exact ⟨(k : Int), rfl, HB3.out, hB.trans (b2.mono hBs)⟩
    · obtain rfl : k = es.length := by omega
      rw [List.take_length] at hG
      have HG := Lib.hid hG
      clear hG
      go_wp2
      go_ret
      exact ⟨-1, rfl, by rw [HG.out]; rfl, hB⟩
theorem containsEnt_any {B P : Nat} {w : World} {ve : Value} {es : List Ent} (s : Int) (hp : w.cell? ⟨P, 0, none⟩ = some (.int .i64 s)) (he : EntsAt B w ve es) (hl : es.length ≤ 1000000) :
    Calls Tryd.prog 52 #[ve, .func (.func 53) #[] #[.pointer (some ⟨P, 0, none⟩)]] w fun e w' => e = .returned (.bool (!allGood s es)) ∧ Below w.heap.size w w' := by
  have H := Lib.hid (indexEnt_any s hp he hl)
  clear hp he
  go_enter Tryd.func52, Tryd.ntmps52
  go_wp2_with fail
  refine H.out.mono ?_
  rintro e w2 ⟨n, rfl, hn, b2⟩
  have HN := Lib.hid hn
  clear hn
  go_wp2
  go_ret
  exact ⟨ret_bool HN.out, b2⟩

/-- May entries be, of a stream, from a place on? -/
def logGood (es : List Ent) (s frm : Int) : Bool := within frm 0 64 && decide ((es.length : Int) ≤ 64 - frm) && allGood s es
set_option maxRecDepth 100000 in
set_option maxHeartbeats 4000000 in
theorem log_any {B : Nat} {w : World} {ve : Value} {es : List Ent} (s frm : Int) (he : EntsAt B w ve es) (hl : es.length ≤ 1000000) :
    Calls Tryd.prog 38 #[ve, .int .i64 s, .int .i64 frm] w fun e w' => e = .returned (.bool (logGood es s frm)) ∧ Below w.heap.size w w' := by
  have hmf : ∀ (fn : Fn) (first cap : Array Value) (w : World), (Instr.makeFunc fn first cap).run Tryd.prog w = .ok (.func fn first cap) w := fun _ _ _ _ => rfl
  obtain ⟨w1, e1, b1, s1, h1⟩ := boxed w #[.int .i64 s] 3
  have hp1 : w1.cell? ⟨w.heap.size, 0, none⟩ = some (.int .i64 s) := by simp [World.cell?, h1]
  have HL := Lib.hid (length_any frm)
  have HC := Lib.hid (containsEnt_any s hp1 (he.below b1) hl)
  have HG := Lib.hid (show logGood es s frm = (within frm 0 64 && decide ((es.length : Int) ≤ 64 - frm) && allGood s es) from rfl)
  have E1 := Lib.hid e1
  have HW := Lib.hid (@within_iff frm 0 64)
  obtain ⟨ae, ce, rfl, _⟩ := he
  clear e1 h1
  generalize logGood es s frm = lg at *
  generalize allGood s es = ag at *
  generalize within frm 0 64 = wi at *
  cases wi with
  | false =>
    go_enter Tryd.func38, Tryd.ntmps38
    go_wp2_with fail
    rw [E1.out]
    refine (HL.out _).mono ?_
    rintro e w2 ⟨rfl, rfl⟩
    go_wp2
    go_ret
    exact ⟨ret_bool (by rw [HG.out]; rfl), b1⟩
  | true =>
    obtain ⟨hf0, hf1⟩ := HW.out.1 rfl
    by_cases hle : (es.length : Int) ≤ 64 - frm
    · have d : decide ((es.length : Int) ≤ 64 - frm) = true := decide_eq_true hle
      have HD := Lib.hid d
      go_enter Tryd.func38, Tryd.ntmps38
      go_wp2_with fail
      rw [E1.out]
      refine (HL.out _).mono ?_
      rintro e w2 ⟨rfl, rfl⟩
      go_wp2_with fail
      refine HC.out.mono ?_
      rintro e w2 ⟨rfl, b2⟩
      go_wp2
      go_ret
      exact ⟨ret_bool (by rw [HG.out, HD.out]; simp), b1.trans (b2.mono b1.size)⟩
    · have d : decide ((es.length : Int) ≤ 64 - frm) = false := decide_eq_false hle
      have HD := Lib.hid d
      go_enter Tryd.func38, Tryd.ntmps38
      go_wp2_with fail
      rw [E1.out]
      refine (HL.out _).mono ?_
      rintro e w2 ⟨rfl, rfl⟩
      go_wp2
      go_ret
      exact ⟨ret_bool (by rw [HG.out, HD.out]; simp), b1⟩
end Go.Proofs.YtnekpehgaojkaaaDoor
