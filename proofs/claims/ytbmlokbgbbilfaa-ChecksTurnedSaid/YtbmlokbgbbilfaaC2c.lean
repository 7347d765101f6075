/- The contract of the examples of layer 2 (works), and the walks of the statements. -/
import Derived.Test.YtbmlokbgbbilfaaC2b
import Derived.Lib.Hide
import Derived.Outline
import Derived.ProofKit
namespace Go.Proofs.Ytbmlokbgbbilfaa
open Go.RowKit

theorem sum_lit (s : ByteArray) (n : Int) (hs : s.size ≤ maxLen) (h : J (Crc.sum s.data.toList) = n) (w : World) :
    Calls Try.prog 10 #[.string s] w fun e w' => e = .returned (.int .u32 n) ∧ w = w' := by
  rw [← h]; exact sum_any s hs w
theorem more_lit (a : Int) (s : ByteArray) (n : Int) (h0 : 0 ≤ a) (h1 : Hid (a < 4294967296)) (hs : s.size ≤ maxLen) (h : J (Crc.more (R a) s.data.toList) = n) (w : World) :
    Calls Try.prog 12 #[.int .u32 a, .string s] w fun e w' => e = .returned (.int .u32 n) ∧ w = w' := by
  rw [← h]; exact more_any a h0 h1 s hs w
theorem less_lit (a : Int) (s : ByteArray) (n : Int) (h0 : 0 ≤ a) (h1 : Hid (a < 4294967296)) (hs : s.size ≤ maxLen) (h : J (Crc.less (R a) s.data.toList) = n) (w : World) :
    Calls Try.prog 15 #[.int .u32 a, .string s] w fun e w' => e = .returned (.int .u32 n) ∧ Below w.heap.size w w' := by
  rw [← h]; exact less_any a h0 h1 s hs w

set_option maxRecDepth 100000 in
set_option maxHeartbeats 1000000 in
theorem works_any (w : World) : Calls Try.prog 14 #[] w fun e w' => e = .returned (.bool true) ∧ Below w.heap.size w w' := by
  obtain ⟨a, ha⟩ : ∃ a, J (Crc.sum [49, 50, 51, 52]) = a := ⟨_, rfl⟩
  have a0 : 0 ≤ a := by rw [← ha]; exact J_lo _
  have a1 := Lib.hid (show a < 4294967296 by rw [← ha]; exact J_hi _)
  have H1 := Lib.hid ha
  have H2 := Lib.hid (show J (Crc.more (R a) [53, 54, 55, 56, 57]) = 3808858755 by rw [← ha]; decide +kernel)
  have H3 := Lib.hid (show J (Crc.less (R 3808858755) [53, 54, 55, 56, 57]) = a by rw [← ha]; decide +kernel)
  clear ha
  go_enter Try.func14, Try.ntmps14
  go_wp2_with fail
  refine (sum_lit _ a (by decide +kernel) H1.out _).mono ?_
  rintro e w' ⟨rfl, rfl⟩
  go_wp2_with fail
  refine (sum_lit _ 3808858755 (by decide +kernel) (by decide +kernel) _).mono ?_
  rintro e w' ⟨rfl, rfl⟩
  go_wp2_with fail
  refine (sum_lit _ 3251651376 (by decide +kernel) (by decide +kernel) _).mono ?_
  rintro e w' ⟨rfl, rfl⟩
  go_wp2_with fail
  refine (more_lit _ _ 3808858755 a0 a1 (by decide +kernel) H2.out _).mono ?_
  rintro e w' ⟨rfl, rfl⟩
  go_wp2_with fail
  refine (less_lit _ _ a (by decide) (Lib.hid (by decide)) (by decide +kernel) H3.out _).mono ?_
  rintro e w' ⟨rfl, hb⟩
  go_wp2
  go_ret
  exact ⟨rfl, hb⟩
end Go.Proofs.Ytbmlokbgbbilfaa
