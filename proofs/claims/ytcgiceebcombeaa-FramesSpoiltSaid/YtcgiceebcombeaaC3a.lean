/- The contracts of the check numbers' functions that layer 3 reaches: On, More, Sum. -/
import Derived.Test.YtcgiceebcombeaaRows
import Derived.Test.YtcgiceebcombeaaCrcNum
import Derived.WalkKit
import Derived.Lib.Hide
import Derived.Outline
namespace Go.Proofs.Ytcgiceebcombeaa
open Go.RowKit

theorem byte_hi (b : UInt8) : (b.toNat : Int) < 256 := by have := b.toNat_lt; omega
theorem byte_mod (b : UInt8) : (b.toNat : Int) % 4294967296 = J (Crc.wide b) := by
  have := b.toNat_lt
  rw [← byte_J]; omega
theorem ret_u32 {a b : Int} (h : a = b) : Ending.returned (.int .u32 a) = .returned (.int .u32 b) := by rw [h]

theorem quo_J (q : Crc.Reg) : (J q).tdiv 2 % 4294967296 = J q / 2 := by
  have h0 := J_lo q
  have h1 := J_hi q
  rw [Int.tdiv_eq_ediv_of_nonneg h0]; omega

theorem subm_J (x : Crc.Reg) : (4294967295 - J x) % 4294967296 = J (~~~x) := by
  rw [sub_J]
  have h1 := J_lo (~~~x)
  have h2 := J_hi (~~~x)
  omega

set_option maxHeartbeats 400000 in
theorem refOn_any (r : Crc.Reg) (b : UInt8) (w : World) :
    Calls Try.prog 29 #[.int .u32 (J r), .int .u8 (b.toNat : Int)] w fun e w' => e = .returned (.int .u32 (J (Crc.on r b))) ∧ w = w' := by
  have E := Lib.hid (show bits .xor .u32 (J r) ((b.toNat : Int) % 4294967296) = J (r ^^^ Crc.wide b) by rw [byte_mod, xor_J])
  go_enter Try.func29, Try.ntmps29
  go_wp2
  rw [E.out]
  go_loop [0, 5] (fun q i => ∃ k : Nat, k ≤ 8 ∧ i = .int .i64 k ∧ q = .int .u32 (J (Crc.steps k (r ^^^ Crc.wide b)))) (fun _ i => 8 - (intOf i).toNat)
  case atStart => exact ⟨0, Nat.zero_le _, rfl, rfl⟩
  case round =>
    obtain ⟨k, hk, rfl, rfl⟩ := hrel
    by_cases hlt : k < 8
    · generalize hq : Crc.steps k (r ^^^ Crc.wide b) = q at *
      have Hq := Lib.hid (show Crc.step q = Crc.steps (k + 1) (r ^^^ Crc.wide b) by rw [← hq]; exact steps_round k _)
      clear hq
      have h0 := J_lo q
      cases hb : q.getLsbD 0
      · have hm := mod2_J q
        have Hb := Lib.hid hb
        rw [hb] at hm; clear hb
        have hm' : ¬ (J q % 2 = 1) := by rw [hm]; decide
        clear hm
        go_wp2
        go_round
        case rel => exact ⟨k + 1, by omega, by go_num, by rw [← Hq.out, ← round_on0 q Hb.out, quo_J]⟩
        case measure => simp [intOf]; omega
      · have hm := mod2_J q
        have Hb := Lib.hid hb
        rw [hb] at hm; clear hb
        have hm' : J q % 2 = 1 := by rw [hm]; decide
        clear hm
        go_wp2
        go_round
        case rel => exact ⟨k + 1, by omega, by go_num, by rw [← Hq.out, ← round_on1 q Hb.out, quo_J]⟩
        case measure => simp [intOf]; omega
    · obtain rfl : k = 8 := by omega
      go_wp2
      go_ret
      exact ⟨rfl, rfl⟩

set_option maxHeartbeats 400000 in
theorem refMore_any (a : Int) (h0 : 0 ≤ a) (H1 : Hid (a < 4294967296)) (s : ByteArray) (hs : s.size ≤ maxLen) (w : World) :
    Calls Try.prog 27 #[.int .u32 a, .string s] w fun e w' => e = .returned (.int .u32 (J (Crc.more (R a) s.data.toList))) ∧ w = w' := by
  unfold maxLen at hs
  have hsz : s.data.toList.length = s.size := Array.length_toList
  obtain ⟨x, hx⟩ : ∃ x, R a = x := ⟨_, rfl⟩
  have ea : a = J x := by rw [← hx, J_R a h0 H1.out]
  rw [hx]; clear hx H1 h0
  subst ea
  have E := Lib.hid (subm_J x)
  have Hsz := Lib.hid hsz; clear hsz
  go_enter Try.func27, Try.ntmps27
  go_wp2
  rw [E.out]
  go_loop [5, 6] (fun q i => ∃ k : Nat, k ≤ s.size ∧ i = .int .i64 k ∧ q = .int .u32 (J (Crc.fwd (~~~x) (s.data.toList.take k)))) (fun _ i => s.size - (intOf i).toNat)
  case atStart => exact ⟨0, Nat.zero_le _, rfl, rfl⟩
  case round =>
    obtain ⟨k, hk, rfl, rfl⟩ := hrel
    by_cases hlt : k < s.size
    · have Hr := Lib.hid (fwd_round (~~~x) s.data.toList k (by rw [Hsz.out]; exact hlt))
      generalize Crc.fwd (~~~x) (s.data.toList.take k) = q at *
      go_wp2_with fail
      refine (refOn_any q s[k] w).mono ?_
      rintro e w' ⟨rfl, rfl⟩
      go_wp2
      go_round
      case rel => exact ⟨k + 1, by omega, by go_num, by rw [← Hr.out]; rfl⟩
      case measure => simp [intOf]; omega
    · obtain rfl : k = s.size := by omega
      go_wp2
      go_ret
      exact ⟨ret_u32 (by rw [List.take_of_length_le (by rw [Hsz.out]; exact Nat.le_refl _), subm_J]; rfl), rfl⟩

set_option maxHeartbeats 400000 in
theorem refSum_any (s : ByteArray) (hs : s.size ≤ maxLen) (w : World) :
    Calls Try.prog 22 #[.string s] w fun e w' => e = .returned (.int .u32 (J (Crc.sum s.data.toList))) ∧ w = w' := by
  have H1 := Lib.hid (show (0 : Int) < 4294967296 by decide)
  go_enter Try.func22, Try.ntmps22
  go_wp2_with fail
  refine (refMore_any 0 (by decide) H1 s hs w).mono ?_
  rintro e w' ⟨rfl, rfl⟩
  go_wp2
  go_ret
  exact ⟨rfl, rfl⟩

set_option maxHeartbeats 400000 in
theorem more_any (a : Int) (h0 : 0 ≤ a) (H1 : Hid (a < 4294967296)) (s : ByteArray) (hs : s.size ≤ maxLen) (w : World) :
    Calls Try.prog 28 #[.int .u32 a, .string s] w fun e w' => e = .returned (.int .u32 (J (Crc.more (R a) s.data.toList))) ∧ w = w' := by
  unfold maxLen at hs
  have hsz : s.data.toList.length = s.size := Array.length_toList
  obtain ⟨x, hx⟩ : ∃ x, R a = x := ⟨_, rfl⟩
  have ea : a = J x := by rw [← hx, J_R a h0 H1.out]
  rw [hx]; clear hx H1 h0
  subst ea
  have Hsz := Lib.hid hsz; clear hsz
  have Em := Lib.hid (show bits .xor .u32 IntKind.u32.max (J x) = J (~~~x) from not_J x)
  go_enter Try.func28, Try.ntmps28
  go_wp2
  rw [Em.out]
  go_loop [5, 11] (fun q i => ∃ k : Nat, k ≤ s.size ∧ i = .int .i64 k ∧ q = .int .u32 (J (Crc.fwd (~~~x) (s.data.toList.take k)))) (fun _ i => s.size - (intOf i).toNat)
  case atStart => exact ⟨0, Nat.zero_le _, rfl, rfl⟩
  case round =>
    obtain ⟨k, hk, rfl, rfl⟩ := hrel
    by_cases hlt : k < s.size
    · have Hr := Lib.hid (fwd_round (~~~x) s.data.toList k (by rw [Hsz.out]; exact hlt))
      generalize Crc.fwd (~~~x) (s.data.toList.take k) = q at *
      have E2 := Lib.hid (show bits .xor .u32 (J q) ((s[k].toNat : Int) % 4294967296) = J (q ^^^ Crc.wide s[k]) by rw [byte_mod, xor_J])
      go_wp2
      rw [E2.out]
      go_loop [5, 20] (fun q' i => ∃ j : Nat, j ≤ 8 ∧ i = .int .i64 j ∧ q' = .int .u32 (J (Crc.steps j (q ^^^ Crc.wide s[k])))) (fun _ i => 8 - (intOf i).toNat)
      case atStart => exact ⟨0, Nat.zero_le _, rfl, rfl⟩
      case round =>
        obtain ⟨j, hj, rfl, rfl⟩ := hrel
        by_cases hl8 : j < 8
        · generalize hp : Crc.steps j (q ^^^ Crc.wide s[k]) = p
          have Hp := Lib.hid (show Crc.step p = Crc.steps (j + 1) (q ^^^ Crc.wide s[k]) by rw [← hp]; exact steps_round j _)
          clear hp
          go_wp2
          go_round
          case rel => exact ⟨j + 1, by omega, by go_num, by rw [← Hp.out, ← round_more, IntKind.wrap_u32']⟩
          case measure => simp [intOf]; omega
        · obtain rfl : j = 8 := by omega
          go_wp2
          go_round
          case rel => exact ⟨k + 1, by omega, by go_num, by rw [← Hr.out]; rfl⟩
          case measure => simp [intOf]; omega
    · obtain rfl : k = s.size := by omega
      go_wp2
      go_ret
      exact ⟨ret_u32 (by rw [List.take_of_length_le (by rw [Hsz.out]; exact Nat.le_refl _)]; exact not_J _), rfl⟩

set_option maxHeartbeats 400000 in
theorem sum_any (s : ByteArray) (hs : s.size ≤ maxLen) (w : World) :
    Calls Try.prog 25 #[.string s] w fun e w' => e = .returned (.int .u32 (J (Crc.sum s.data.toList))) ∧ w = w' := by
  have H1 := Lib.hid (show (0 : Int) < 4294967296 by decide)
  go_enter Try.func25, Try.ntmps25
  go_wp2_with fail
  refine (more_any 0 (by decide) H1 s hs w).mono ?_
  rintro e w' ⟨rfl, rfl⟩
  go_wp2
  go_ret
  exact ⟨rfl, rfl⟩
end Go.Proofs.Ytcgiceebcombeaa
