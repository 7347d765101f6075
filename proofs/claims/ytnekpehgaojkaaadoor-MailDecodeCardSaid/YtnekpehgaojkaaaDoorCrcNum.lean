/- Numbers of 32 bits as the program has them, and as bit vectors: each operation of the check number's text, said of bit vectors. No program. -/
import Derived.Test.YtnekpehgaojkaaaDoorCrc
import Derived.WalkKit
namespace Go.Proofs.YtnekpehgaojkaaaDoor
open Go.RowKit

def J (r : Crc.Reg) : Int := (r.toNat : Int)
def R (a : Int) : Crc.Reg := BitVec.ofNat 32 a.toNat
theorem J_lo (r : Crc.Reg) : 0 ≤ J r := by unfold J; omega
theorem J_hi (r : Crc.Reg) : J r < 4294967296 := by unfold J; have := r.isLt; omega
theorem J_R (a : Int) (h0 : 0 ≤ a) (h1 : a < 4294967296) : J (R a) = a := by
  unfold J R
  rw [BitVec.toNat_ofNat]
  omega
theorem R_J (r : Crc.Reg) : R (J r) = r := by
  unfold J R
  apply BitVec.eq_of_toNat_eq
  rw [BitVec.toNat_ofNat, Int.toNat_natCast]
  exact Nat.mod_eq_of_lt r.isLt
theorem J_inj {r s : Crc.Reg} (h : J r = J s) : r = s := by rw [← R_J r, h, R_J]
theorem J_beq (r s : Crc.Reg) : (J r == J s) = (r == s) := by
  rw [Bool.eq_iff_iff, beq_iff_eq, beq_iff_eq]
  exact ⟨J_inj, fun h => by rw [h]⟩
theorem J_wf (r : Crc.Reg) : (Lit.int .u32 (J r)).wf = true := by
  have h0 := J_lo r
  have h1 := J_hi r
  simp [Lit.wf, IntKind.min, IntKind.max, IntKind.signed, IntKind.bits]
  omega

theorem ofInt_J (r : Crc.Reg) : BitVec.ofInt 32 (J r) = r := by
  unfold J
  rw [BitVec.ofInt_natCast]; simp
theorem wrap_u32_J (r : Crc.Reg) : IntKind.u32.wrap (r.toNat : Int) = J r := by
  have h1 := r.isLt
  rw [IntKind.wrap_u32']; unfold J; omega
theorem xor_J (r s : Crc.Reg) : bits .xor .u32 (J r) (J s) = J (r ^^^ s) := by
  show IntKind.u32.wrap ((BitVec.ofInt 32 (J r) ^^^ BitVec.ofInt 32 (J s)).toNat : Int) = _
  rw [ofInt_J, ofInt_J, wrap_u32_J]
theorem and_J (r s : Crc.Reg) : bits .and .u32 (J r) (J s) = J (r &&& s) := by
  show IntKind.u32.wrap ((BitVec.ofInt 32 (J r) &&& BitVec.ofInt 32 (J s)).toNat : Int) = _
  rw [ofInt_J, ofInt_J, wrap_u32_J]
theorem or_J (r s : Crc.Reg) : bits .or .u32 (J r) (J s) = J (r ||| s) := by
  show IntKind.u32.wrap ((BitVec.ofInt 32 (J r) ||| BitVec.ofInt 32 (J s)).toNat : Int) = _
  rw [ofInt_J, ofInt_J, wrap_u32_J]
theorem shr_J (r : Crc.Reg) : J r / (2 : Int) = J (r >>> 1) := by
  unfold J
  rw [BitVec.toNat_ushiftRight, Nat.shiftRight_eq_div_pow]
  omega
theorem shl_J (r : Crc.Reg) : IntKind.u32.wrap (J r * 2) = J (r <<< 1) := by
  unfold J
  rw [IntKind.wrap_u32', BitVec.toNat_shiftLeft, Nat.shiftLeft_eq]
  omega
theorem J_poly : J Crc.poly = 2197175160 := by decide +kernel
theorem J_one : J 1#32 = 1 := by decide +kernel
theorem J_zero : J 0#32 = 0 := by decide +kernel
theorem J_high : J 2147483648#32 = 2147483648 := by decide +kernel
theorem J_ones : J (~~~0#32) = 4294967295 := by decide +kernel
theorem sub_J (r : Crc.Reg) : 4294967295 - J r = J (~~~r) := by
  unfold J
  have := r.isLt
  rw [BitVec.toNat_not]
  omega
theorem not_J (r : Crc.Reg) : bits .xor .u32 4294967295 (J r) = J (~~~r) := by
  have h : ~~~0#32 ^^^ r = ~~~r := by
    apply BitVec.eq_of_getLsbD_eq
    intro i hi
    rw [BitVec.getLsbD_xor, BitVec.getLsbD_not, BitVec.getLsbD_not]
    simp [hi]
  rw [← J_ones, xor_J, h]
theorem byte_J (b : UInt8) : ((b.toNat : Nat) : Int) = J (Crc.wide b) := by
  unfold J Crc.wide
  have := b.toNat_lt
  rw [BitVec.toNat_ofNat, Nat.mod_eq_of_lt (by omega)]
theorem mod2_J (r : Crc.Reg) : J r % 2 = if r.getLsbD 0 then 1 else 0 := by
  unfold J
  have h : r.getLsbD 0 = decide (r.toNat % 2 = 1) := by
    simp [BitVec.getLsbD, Nat.testBit_zero]
  rw [h]
  by_cases h2 : r.toNat % 2 = 1
  · simp [h2]; omega
  · simp [h2]; omega
theorem high_J (r : Crc.Reg) : 2147483648 ≤ J r ↔ r.msb = true := by
  unfold J
  rw [BitVec.msb_eq_decide]
  simp
  omega
theorem and1 (r : Crc.Reg) : r &&& 1#32 = if r.getLsbD 0 then 1#32 else 0#32 := by
  ext i hi
  by_cases h0 : i = 0
  · subst h0
    cases h : r.getLsbD 0 <;> simp_all [BitVec.getLsbD_eq_getElem]
  · cases h : r.getLsbD 0 <;> simp [BitVec.getElem_one, h0]
theorem andHigh (r : Crc.Reg) : r &&& 2147483648#32 = if r.msb then 2147483648#32 else 0#32 := by
  have e : (2147483648#32) = BitVec.twoPow 32 31 := by decide
  rw [e]
  ext i hi
  by_cases h0 : i = 31
  · subst h0
    cases h : r.msb <;> simp_all [BitVec.msb_eq_getLsbD_last, BitVec.getLsbD_eq_getElem, BitVec.getElem_twoPow]
  · cases h : r.msb <;> simp [BitVec.getElem_twoPow, h0] <;> (intro _ h2; exact absurd h2.symm h0)

/-! The program's rounds. -/
theorem step_true (r : Crc.Reg) (h : r.getLsbD 0 = true) : Crc.step r = (r >>> 1) ^^^ Crc.poly := by unfold Crc.step; rw [if_pos h]
theorem step_false (r : Crc.Reg) (h : r.getLsbD 0 = false) : Crc.step r = (r >>> 1) := by unfold Crc.step; rw [h]; simp
theorem unstep_true (r : Crc.Reg) (h : r.msb = true) : Crc.unstep r = ((r ^^^ Crc.poly) <<< 1) ||| 1#32 := by unfold Crc.unstep; rw [if_pos h]
theorem unstep_false (r : Crc.Reg) (h : r.msb = false) : Crc.unstep r = r <<< 1 := by unfold Crc.unstep; rw [h]; simp

/-- 'reg>>1 ^ poly&-(reg&1)' -/
theorem round_more (r : Crc.Reg) : bits .xor .u32 (J r / 2) (bits .and .u32 2197175160 (IntKind.u32.wrap (-(bits .and .u32 (J r) 1)))) = J (Crc.step r) := by
  rw [← J_one, and_J, and1, shr_J]
  cases h : r.getLsbD 0
  · rw [step_false r h]
    have e : IntKind.u32.wrap (-(J (if false = true then 1#32 else 0#32))) = J 0#32 := by decide +kernel
    rw [e, ← J_poly, and_J, xor_J]
    simp
  · rw [step_true r h]
    have e : IntKind.u32.wrap (-(J (if true = true then 1#32 else 0#32))) = J (~~~0#32) := by decide +kernel
    rw [e, ← J_poly, and_J, xor_J]
    congr 2
/-- 'reg/2 ^ Poly' -/
theorem round_on1 (r : Crc.Reg) (h : r.getLsbD 0 = true) : bits .xor .u32 (J r / 2) 2197175160 = J (Crc.step r) := by
  rw [shr_J, ← J_poly, xor_J, step_true r h]
theorem round_on0 (r : Crc.Reg) (h : r.getLsbD 0 = false) : J r / 2 = J (Crc.step r) := by
  rw [shr_J, step_false r h]
/-- '(reg^poly)<<1 | 1' -/
theorem round_less1 (r : Crc.Reg) (h : r.msb = true) : bits .or .u32 (IntKind.u32.wrap (bits .xor .u32 (J r) 2197175160 * 2)) 1 = J (Crc.unstep r) := by
  rw [← J_poly, xor_J, shl_J, ← J_one, or_J, unstep_true r h]
theorem round_less0 (r : Crc.Reg) (h : r.msb = false) : IntKind.u32.wrap (J r * 2) = J (Crc.unstep r) := by
  rw [shl_J, unstep_false r h]
/-- '(reg^Poly)*2 + 1' -/
theorem round_back1 (r : Crc.Reg) (h : r.msb = true) : IntKind.u32.wrap (IntKind.u32.wrap (bits .xor .u32 (J r) 2197175160 * 2) + 1) = J (Crc.unstep r) := by
  rw [← round_less1 r h, ← J_poly, xor_J, shl_J, ← J_one, or_J]
  generalize r ^^^ Crc.poly = s
  have e : (s <<< 1 ||| 1#32) = s <<< 1 + 1#32 := by
    rw [BitVec.add_eq_or_of_and_eq_zero]
    ext i hi
    by_cases h0 : i = 0
    · subst h0; simp
    · simp [BitVec.getElem_one, h0]
  rw [e]
  unfold J
  rw [IntKind.wrap_u32', BitVec.toNat_add]
  have h1 : (1#32).toNat = 1 := rfl
  rw [h1]
  omega

theorem steps_round (n : Nat) (x : Crc.Reg) : Crc.step (Crc.steps n x) = Crc.steps (n + 1) x := (Crc.steps_succ' n x).symm
theorem unsteps_round (n : Nat) (x : Crc.Reg) : Crc.unstep (Crc.unsteps n x) = Crc.unsteps (n + 1) x := (Crc.unsteps_succ' n x).symm
theorem fwd_round (r : Crc.Reg) (s : List UInt8) (k : Nat) (h : k < s.length) : Crc.on (Crc.fwd r (s.take k)) s[k] = Crc.fwd r (s.take (k + 1)) := by
  rw [List.take_succ_eq_append_getElem h, Crc.fwd_append]; rfl
theorem bwd_round (r : Crc.Reg) (s : List UInt8) (k : Nat) (h : k < s.length) : Crc.off (Crc.bwd r (s.drop (k + 1))) s[k] = Crc.bwd r (s.drop k) := by
  rw [List.drop_eq_getElem_cons h]; rfl
end Go.Proofs.YtnekpehgaojkaaaDoor
