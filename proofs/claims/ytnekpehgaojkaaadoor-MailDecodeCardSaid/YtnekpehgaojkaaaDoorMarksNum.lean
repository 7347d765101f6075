/- The arithmetic of the marks' text, said of plain numbers. No program. -/
import Derived.Test.YtnekpehgaojkaaaDoorMarks
import Derived.WalkKit
import Derived.IntWalk
namespace Go.Proofs.YtnekpehgaojkaaaDoor
open Go.RowKit

theorem u64_xor_ones (a : Nat) (ha : a < 18446744073709551616) : a ^^^ 18446744073709551615 = 18446744073709551615 - a := by
  have h : (BitVec.ofNat 64 a ^^^ BitVec.allOnes 64).toNat = (~~~(BitVec.ofNat 64 a)).toNat := by
    congr 1
    rw [BitVec.xor_allOnes]
  rw [BitVec.toNat_xor, BitVec.toNat_not, BitVec.toNat_allOnes, BitVec.toNat_ofNat] at h
  have e : a % 2 ^ 64 = a := Nat.mod_eq_of_lt (by omega)
  rw [e] at h
  have e2 : 2 ^ 64 - 1 = 18446744073709551615 := by decide
  rw [e2] at h
  omega

theorem fold_program (n : Int) (h0 : -9223372036854775808 ≤ n) (h1 : n ≤ 9223372036854775807) :
    bits .xor .u64 (IntKind.u64.wrap (IntKind.u64.wrap n * 2)) (IntKind.u64.wrap (n / 9223372036854775808)) = (Marks.fold n : Int) := by
  have hu : ∀ m : Int, IntKind.u64.wrap m = m % 18446744073709551616 := fun m => by simp [IntKind.wrap, IntKind.bits, IntKind.signed]
  rw [hu, hu, hu]
  unfold Marks.fold
  by_cases hn : 0 ≤ n
  · rw [if_pos hn]
    have e1 : n % 18446744073709551616 * 2 % 18446744073709551616 = (((2 * n).toNat : Nat) : Int) := by omega
    have e2 : n / 9223372036854775808 % 18446744073709551616 = ((0 : Nat) : Int) := by omega
    rw [e1, e2, u64_xor_nat _ _ (by omega) (by omega), Nat.xor_zero]
  · rw [if_neg hn]
    have e1 : n % 18446744073709551616 * 2 % 18446744073709551616 = (((2 * n + 18446744073709551616).toNat : Nat) : Int) := by omega
    have e2 : n / 9223372036854775808 % 18446744073709551616 = ((18446744073709551615 : Nat) : Int) := by omega
    rw [e1, e2, u64_xor_nat _ _ (by omega) (by omega), u64_xor_ones _ (by omega)]
    omega

theorem u8_or_128 (a : Nat) (ha : a < 256) : a ||| 128 = a % 128 + 128 := by
  have h : ∀ a : Fin 256, a.val ||| 128 = a.val % 128 + 128 := by decide +kernel
  exact h ⟨a, ha⟩
theorem byte_more (g : Nat) : bits .or .u8 ((g : Int) % 256) 128 = ((UInt8.ofNat (g % 128 + 128)).toNat : Int) := by
  have e : (g : Int) % 256 = ((g % 256 : Nat) : Int) := by omega
  have := u8_or_nat (g % 256) 128 (by omega) (by omega)
  rw [e]
  refine this.trans ?_
  rw [u8_or_128 _ (by omega), Marks.toNat_ofNat _ (by omega)]
  omega
theorem byte_last (g : Nat) (h : g < 128) : (g : Int) % 256 = ((UInt8.ofNat g).toNat : Int) := by
  rw [Marks.toNat_ofNat _ (by omega)]; omega
theorem byte_ref (g : Nat) : (g : Int) % 128 + 128 = ((UInt8.ofNat (g % 128 + 128)).toNat : Int) := by
  rw [Marks.toNat_ofNat _ (by omega)]; omega

theorem andNot_byte (c : Nat) (hc : c < 256) : bits .andNot .u8 (c : Int) 128 = ((c % 128 : Nat) : Int) := by
  have h : ∀ a : Fin 256, a.val &&& 127 = a.val % 128 := by decide +kernel
  refine (u8_andNot_nat c 128 hc (by omega)).trans ?_
  show ((c &&& (255 - 128) : Nat) : Int) = _
  rw [show (255 - 128 : Nat) = 127 from rfl, h ⟨c, hc⟩]

theorem pow7 (i : Nat) : 2 ^ (7 * i) = 128 ^ i := by rw [Nat.pow_mul]

theorem or_above (f x i : Nat) (hf : f < 128 ^ i) : f ||| (128 ^ i * x) = f + 128 ^ i * x := by
  have h := Nat.shiftLeft_add_eq_or_of_lt (i := 7 * i) (b := f) (by rw [pow7]; exact hf) x
  rw [Nat.shiftLeft_eq, pow7] at h
  rw [Nat.or_comm, Nat.mul_comm, ← h, Nat.add_comm]

/-- 'f |= uint64(c&^more) << (group * i)' -/
theorem acc_program (f c i : Nat) (hc : c < 256) (hi : i ≤ 9) (hf : f < 128 ^ i) (h9 : i = 9 → c % 128 ≤ 1) :
    bits .or .u64 (f : Int) (IntKind.u64.wrap (IntKind.u64.wrap (bits .andNot .u8 (c : Int) 128) * 2 ^ (7 * i))) = ((f + 128 ^ i * (c % 128) : Nat) : Int) := by
  have h8 : i ≤ 8 ∨ i = 9 := by omega
  have hp : 128 ^ i ≤ 128 ^ 9 := Nat.pow_le_pow_right (by decide) hi
  have hb : 128 ^ i * (c % 128) < 18446744073709551616 := by
    rcases h8 with h | h
    · have h1 : 128 ^ i ≤ 128 ^ 8 := Nat.pow_le_pow_right (by decide) h
      have h2 : 128 ^ i * (c % 128) ≤ 128 ^ 8 * 127 := Nat.mul_le_mul h1 (by omega)
      exact Nat.lt_of_le_of_lt h2 (by decide)
    · have h1 := h9 h
      have h2 : 128 ^ i * (c % 128) ≤ 128 ^ 9 * 1 := Nat.mul_le_mul hp h1
      exact Nat.lt_of_le_of_lt h2 (by decide)
  have e2 : (2 : Int) ^ (7 * i) = ((128 ^ i : Nat) : Int) := by rw [← pow7]; simp
  have e1 : IntKind.u64.wrap (bits .andNot .u8 (c : Int) 128) = ((c % 128 : Nat) : Int) := by
    rw [andNot_byte c hc, IntKind.wrap_u64]; omega
  have e3 : IntKind.u64.wrap (((c % 128 : Nat) : Int) * ((128 ^ i : Nat) : Int)) = ((128 ^ i * (c % 128) : Nat) : Int) := by
    rw [IntKind.wrap_u64, ← Int.natCast_mul, Nat.mul_comm]; omega
  have hp9 := Marks.pow9
  rw [e1, e2, e3, u64_or_nat _ _ (by omega) hb, or_above f _ i hf]

theorem and_one_u64 (F : Nat) (hF : F < 18446744073709551616) : bits .and .u64 (F : Int) 1 = ((F % 2 : Nat) : Int) := by
  refine (u64_and_nat F 1 hF (by omega)).trans ?_
  rw [Nat.and_one_is_mod]

theorem xor_i64_zero (x : Int) (h0 : 0 ≤ x) (h1 : x < 9223372036854775808) : bits .xor .i64 x 0 = x := by
  show IntKind.i64.wrap ((BitVec.ofInt 64 x ^^^ BitVec.ofInt 64 0).toNat : Int) = _
  have e : BitVec.ofInt 64 0 = 0#64 := by decide
  rw [e, BitVec.xor_zero, BitVec.toNat_ofInt]
  exact IntWalk.i64_in _ (by omega) |>.trans (by omega)
theorem xor_i64_ones (x : Int) (h0 : 0 ≤ x) (h1 : x < 9223372036854775808) : bits .xor .i64 x (-1) = -x - 1 := by
  show IntKind.i64.wrap ((BitVec.ofInt 64 x ^^^ BitVec.ofInt 64 (-1)).toNat : Int) = _
  have e : BitVec.ofInt 64 (-1) = BitVec.allOnes 64 := by decide
  rw [e, BitVec.xor_allOnes, BitVec.toNat_not, BitVec.toNat_ofInt, IntKind.wrap_i64]
  omega

/-- 'int(f>>1) ^ -int(f&1)' -/
theorem unfold_program (F : Nat) (hF : F < 18446744073709551616) : bits .xor .i64 (wrap64 ((F : Int) / 2)) (wrap64 (-wrap64 (bits .and .u64 (F : Int) 1))) = Marks.unfold F := by
  have e1 : wrap64 ((F : Int) / 2) = ((F / 2 : Nat) : Int) := by unfold wrap64; omega
  rw [e1, and_one_u64 F hF]
  unfold Marks.unfold
  rcases (show F % 2 = 0 ∨ F % 2 = 1 by omega) with h | h
  · rw [h, if_pos rfl]
    have e2 : wrap64 (-wrap64 ((0 : Nat) : Int)) = 0 := by unfold wrap64; omega
    rw [e2, xor_i64_zero _ (by omega) (by omega)]
  · rw [h, if_neg (by decide)]
    have e2 : wrap64 (-wrap64 ((1 : Nat) : Int)) = -1 := by unfold wrap64; omega
    rw [e2, xor_i64_ones _ (by omega) (by omega)]

/-- 'n = -n - 1' -/
theorem unfold_ref1 (F : Nat) (hF : F < 18446744073709551616) (h : ((F : Int) % 2 == 1) = true) : wrap64 (wrap64 (-wrap64 (IntKind.u64.wrap ((F : Int) / 2))) - 1) = Marks.unfold F := by
  have h2 : (F : Int) % 2 = 1 := eq_of_beq h
  unfold Marks.unfold
  rw [if_neg (by omega), IntKind.wrap_u64]
  unfold wrap64
  omega
theorem unfold_ref0 (F : Nat) (hF : F < 18446744073709551616) (h : ((F : Int) % 2 == 1) = false) : wrap64 (IntKind.u64.wrap ((F : Int) / 2)) = Marks.unfold F := by
  have h2 : ¬ (F : Int) % 2 = 1 := by simpa using h
  unfold Marks.unfold
  rw [if_pos (by omega), IntKind.wrap_u64]
  unfold wrap64
  omega
/-- 'f = f*128 + uint64(s[i]%128)' -/
theorem acc_ref (c : UInt8) (l : List UInt8) : IntKind.u64.wrap (IntKind.u64.wrap (((Marks.val l % 18446744073709551616 : Nat) : Int) * 128) + (c.toNat : Int) % 128) = ((Marks.val (c :: l) % 18446744073709551616 : Nat) : Int) := by
  rw [IntKind.wrap_u64, IntKind.wrap_u64]
  show _ = (((c.toNat % 128 + 128 * Marks.val l) % 18446744073709551616 : Nat) : Int)
  omega
end Go.Proofs.YtnekpehgaojkaaaDoor
