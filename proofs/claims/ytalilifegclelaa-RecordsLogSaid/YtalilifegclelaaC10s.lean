/- The walk of RecordsLog. -/
import Derived.Test.YtalilifegclelaaC10r
import Derived.Deep.DeepCutAuto
namespace Go.Proofs.Ytalilifegclelaa
open Go.RowKit

theorem log_rec1 (s f : Int) (es : List Ent) : mayR ⟨2, s, 9, 0, f, 0⟩ es [] = (within s 0 3 && logGood es s f) := by
  simp [mayR, kindGood, bareB, within]
theorem log_rec2 {s f : Int} {es : List Ent} (h : (within s 0 3 && logGood es s f) = true) : mayR ⟨4, s, 0, 0, 0, (es.length : Int)⟩ es [] = true := by
  simp only [logGood, Bool.and_eq_true, within_iff, decide_eq_true_eq] at h
  obtain ⟨⟨h1, h2⟩, ⟨⟨h3, h4⟩, h5⟩, h6⟩ := h
  simp only [mayR, kindGood, bareB, logGood, within, h6]
  simp
  omega
/-- What is asked ahead of the entries. -/
def logHead (es : List Ent) (s f : Int) : Bool := within s 0 3 && (within f 0 64 && decide ((es.length : Int) ≤ 64 - f))
theorem logHead_all (es : List Ent) (s f : Int) : (logHead es s f && allGood s es) = (within s 0 3 && logGood es s f) := by
  unfold logHead logGood
  rw [Bool.and_assoc]
theorem good_next {s : Int} {es : List Ent} {k : Nat} (hk : k < es.length) : allGood s (es.take (k + 1)) = (allGood s (es.take k) && entGood s es[k]) := by
  unfold allGood
  rw [List.take_succ_eq_append_getElem hk, List.all_append]
  simp

set_option maxRecDepth 100000 in
set_option maxHeartbeats 8000000 in
theorem recordsLog_walk (s f : Int) (es : List Ent) (v : Value) (hs : (Lit.int .i64 s).wf = true) (hf : (Lit.int .i64 f).wf = true) (w : World) (hE : EntsIn w v es) :
    Calls Try.prog 7 #[.int .i64 s, .int .i64 f, v] w fun e w' => e = .returned (.bool true) ∧ Below w.heap.size w w' := by
  obtain ⟨he, _, hok⟩ := hE
  have hs' := wf_i64 hs
  have hf' := wf_i64 hf
  have HE := Lib.hid he
  have HS := Lib.hid hs'
  have HF := Lib.hid hf'
  have HW := Lib.hid works_any
  obtain ⟨ae, ce, rfl, _⟩ := he
  clear hs hf hok hs'
  by_cases hl : 100 < es.length
  · go_enter Try.func7, Try.ntmps7
    go_wp2
    go_ret
    exact ⟨rfl, Below.refl _ _⟩
  · go_enter Try.func7, Try.ntmps7
    go_upto_region 3 with fail
    go_cut [7] (fun c wx => c = .bool (logHead es s f) ∧ wx = w)
    case first =>
      have HH := Lib.hid (show logHead es s f = (within s 0 3 && (within f 0 64 && decide ((es.length : Int) ≤ 64 - f))) from rfl)
      by_cases h1 : 0 ≤ s
      · by_cases h2 : s < 4
        · have d2 : decide (s < 4) = true := decide_eq_true h2
          by_cases h3 : 0 ≤ f
          · by_cases h4 : f ≤ 64
            · have e1 := Lib.hid (within_yes h1 (show s ≤ 3 by omega))
              have e2 := Lib.hid (within_yes h3 h4)
              go_wp2
              go_meet
              exact ⟨congrArg Value.bool (by rw [HH.out, e1.out, e2.out]; simp), rfl⟩
            · have d4 : decide (f ≤ 64) = false := decide_eq_false h4
              have e2 := Lib.hid (within_no (a := 0) (.inr (show 64 < f by omega)))
              go_wp2
              go_meet
              exact ⟨congrArg Value.bool (by rw [HH.out, e2.out]; simp), rfl⟩
          · have d3 : decide (0 ≤ f) = false := decide_eq_false h3
            have e2 := Lib.hid (within_no (b := 64) (.inl (show f < 0 by omega)))
            go_wp2
            go_meet
            exact ⟨congrArg Value.bool (by rw [HH.out, e2.out]; simp), rfl⟩
        · have d2 : decide (s < 4) = false := decide_eq_false h2
          have e1 := Lib.hid (within_no (a := 0) (.inr (show 3 < s by omega)))
          go_wp2
          go_meet
          exact ⟨congrArg Value.bool (by rw [HH.out, e1.out]; simp), rfl⟩
      · have d1 : decide (0 ≤ s) = false := decide_eq_false h1
        have e1 := Lib.hid (within_no (b := 3) (.inl (show s < 0 by omega)))
        go_wp2
        go_meet
        exact ⟨congrArg Value.bool (by rw [HH.out, e1.out]; simp), rfl⟩
    case rest =>
      obtain ⟨rfl, rfl⟩ := hcut
      go_wp2_with fail
      go_loopw [7, 8] (fun c p wr => ∃ k : Nat, k ≤ es.length ∧ p = .int .i64 k ∧ c = .bool (logHead es s f && allGood s (es.take k)) ∧ Below wc.heap.size wc wr) (fun _ p _ => es.length - (intOf p).toNat)
      case atStart => exact ⟨0, by omega, rfl, by simp [allGood], Below.refl _ _⟩
      case round =>
        obtain ⟨k, hk, rfl, rfl, hB⟩ := hrel
        have hBs := hB.size
        by_cases hlt : k < es.length
        · obtain ⟨a1, c1, hva, hca⟩ := HE.out.below hB
          cases hva
          obtain ⟨bb, off, rfl, hbl, _, hcell⟩ := hca (fun h => by rw [h] at hlt; simp at hlt)
          obtain ⟨x0, x1, x2, x3, x4, x5⟩ := hcell k hlt
          have HN := Lib.hid (show (logHead es s f && allGood s (es.take (k + 1))) = ((logHead es s f && allGood s (es.take k)) && entGood s es[k]) by rw [good_next hlt, Bool.and_assoc])
          clear hcell hca
          generalize es[k] = x at *
          generalize (logHead es s f && allGood s (es.take k)) = bg at *
          have HG := Lib.hid (show entGood s x = (within x.epoch 1 1048576 && decide (x.ord.stream = s) && mayB x.ord) from rfl)
          have HC := Lib.hid (check_is x.ord)
          cases bg with
          | false =>
            go_wp2
            go_roundw
            case rel => exact ⟨k + 1, by omega, by go_num, by rw [HN.out]; rfl, hB⟩
            case measure => simp [intOf]; omega
          | true =>
            by_cases h1 : 1 ≤ x.epoch
            · by_cases h2 : x.epoch ≤ 1048576
              · have e1 := Lib.hid (within_yes h1 h2)
                have d2 : decide (x.epoch ≤ 1048576) = true := decide_eq_true h2
                by_cases h3 : x.ord.stream = s
                · have d3 : (x.ord.stream == s) = true := by rw [beq_iff_eq]; exact h3
                  have H3 := Lib.hid (decide_eq_true h3)
                  clear h3
                  generalize mayB x.ord = my at *
                  cases my with
                  | true =>
                    go_wp2_with fail
                    refine (HC.out _).mono ?_
                    rintro e w2 ⟨rfl, b2⟩
                    go_wp2
                    go_roundw
                    case rel => exact ⟨k + 1, by omega, by go_num, by rw [HN.out, HG.out, e1.out, H3.out]; rfl, hB.trans (b2.mono hBs)⟩
                    case measure => simp [intOf]; omega
                  | false =>
                    go_wp2_with fail
                    refine (HC.out _).mono ?_
                    rintro e w2 ⟨rfl, b2⟩
                    go_wp2
                    go_roundw
                    case rel => exact ⟨k + 1, by omega, by go_num, by rw [HN.out, HG.out, e1.out, H3.out]; rfl, hB.trans (b2.mono hBs)⟩
                    case measure => simp [intOf]; omega
                · have d3 : (x.ord.stream == s) = false := by rw [beq_eq_false_iff_ne]; exact h3
                  have H3 := Lib.hid (decide_eq_false h3)
                  clear h3
                  go_wp2
                  go_roundw
                  case rel => exact ⟨k + 1, by omega, by go_num, by rw [HN.out, HG.out, e1.out, H3.out]; rfl, hB⟩
                  case measure => simp [intOf]; omega
              · have d2 : decide (x.epoch ≤ 1048576) = false := decide_eq_false h2
                have e1 := Lib.hid (within_no (a := 1) (.inr (show 1048576 < x.epoch by omega)))
                go_wp2
                go_roundw
                case rel => exact ⟨k + 1, by omega, by go_num, by rw [HN.out, HG.out, e1.out]; rfl, hB⟩
                case measure => simp [intOf]; omega
            · have d1 : decide (1 ≤ x.epoch) = false := decide_eq_false h1
              have e1 := Lib.hid (within_no (b := 1048576) (.inl (show x.epoch < 1 by omega)))
              go_wp2
              go_roundw
              case rel => exact ⟨k + 1, by omega, by go_num, by rw [HN.out, HG.out, e1.out]; rfl, hB⟩
              case measure => simp [intOf]; omega
        · obtain rfl : k = es.length := by omega
          rw [List.take_length]
          have HX := Lib.hid (fun (w2 : World) (b2 : Below wr.heap.size wr w2) => (HE.out.below hB).below b2)
          have HT := Lib.hid (logHead_all es s f)
          have HR1 := Lib.hid (log_rec1 s f es)
          have HR2 := Lib.hid (@log_rec2 s f es)
          generalize (logHead es s f && allGood s es) = tt at *
          cases tt with
          | true =>
            have X1 := Lib.hid (checkR_yes (n := ⟨2, s, 9, 0, f, 0⟩) (HX.out wr (Below.refl _ _)) (spts_nil wc.heap.size wr) (by omega) (by simp) (by rw [HR1.out, ← HT.out]))
            have X2 := Lib.hid (fun (w2 : World) (b2 : Below wr.heap.size wr w2) => checkR_yes (n := ⟨4, s, 0, 0, 0, (es.length : Int)⟩) (HX.out w2 b2) (spts_nil wc.heap.size w2) (by omega) (by simp) (HR2.out HT.out.symm))
            go_wp2_with fail
            refine X1.out.mono ?_
            rintro e w2 ⟨rfl, b2⟩
            have s2 := b2.size
            go_wp2_with fail
            refine (X2.out w2 b2).mono ?_
            rintro e w3 ⟨rfl, b3⟩
            have s3 := b3.size
            go_wp2_with fail
            refine (HW.out _).mono ?_
            rintro e w4 ⟨rfl, b4⟩
            go_wp2
            go_ret
            exact ⟨rfl, hB.trans ((b2.trans ((b3.mono s2).trans (b4.mono (by omega)))).mono hBs)⟩
          | false =>
            have X1 := Lib.hid (checkR_no (n := ⟨2, s, 9, 0, f, 0⟩) (HX.out wr (Below.refl _ _)) (spts_nil wc.heap.size wr) (by omega) (by simp) (by rw [HR1.out, ← HT.out]))
            cases hm : mayR ⟨4, s, 0, 0, 0, (es.length : Int)⟩ es [] with
            | true =>
              have X2 := Lib.hid (fun (w2 : World) (b2 : Below wr.heap.size wr w2) => checkR_yes (n := ⟨4, s, 0, 0, 0, (es.length : Int)⟩) (HX.out w2 b2) (spts_nil wc.heap.size w2) (by omega) (by simp) hm)
              clear hm
              go_wp2_with fail
              refine X1.out.mono ?_
              rintro e w2 ⟨rfl, b2⟩
              have s2 := b2.size
              go_wp2_with fail
              refine (X2.out w2 b2).mono ?_
              rintro e w3 ⟨rfl, b3⟩
              have s3 := b3.size
              go_wp2_with fail
              refine (HW.out _).mono ?_
              rintro e w4 ⟨rfl, b4⟩
              go_wp2
              go_ret
              exact ⟨rfl, hB.trans ((b2.trans ((b3.mono s2).trans (b4.mono (by omega)))).mono hBs)⟩
            | false =>
              have X2 := Lib.hid (fun (w2 : World) (b2 : Below wr.heap.size wr w2) => checkR_no (n := ⟨4, s, 0, 0, 0, (es.length : Int)⟩) (HX.out w2 b2) (spts_nil wc.heap.size w2) (by omega) (by simp) hm)
              clear hm
              go_wp2_with fail
              refine X1.out.mono ?_
              rintro e w2 ⟨rfl, b2⟩
              have s2 := b2.size
              go_wp2_with fail
              refine (X2.out w2 b2).mono ?_
              rintro e w3 ⟨rfl, b3⟩
              have s3 := b3.size
              go_wp2_with fail
              refine (HW.out _).mono ?_
              rintro e w4 ⟨rfl, b4⟩
              go_wp2
              go_ret
              exact ⟨rfl, hB.trans ((b2.trans ((b3.mono s2).trans (b4.mono (by omega)))).mono hBs)⟩
end Go.Proofs.Ytalilifegclelaa
