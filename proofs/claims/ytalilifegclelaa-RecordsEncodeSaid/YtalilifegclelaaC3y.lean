/- checks.More, checks.Sum, frames.check, frames.Frame: the contracts of layers 2 and 3, without the reference's functions. -/
import Derived.Test.YtalilifegclelaaRows
import Derived.Test.YtalilifegclelaaCrcNum
import Derived.WalkKit
import Derived.Lib.Hide
import Derived.Outline
import Derived.Test.YtalilifegclelaaC3b
import Derived.BigQuiet
import Derived.WalkSmall
import Derived.StillTailTactics
import Derived.Lib.QuietBelow
namespace Go.Proofs.Ytalilifegclelaa
open Go.RowKit

theorem byte_hi (b : UInt8) : (b.toNat : Int) < 256 := by have := b.toNat_lt; omega
theorem byte_mod (b : UInt8) : (b.toNat : Int) % 4294967296 = J (Crc.wide b) := by
  have := b.toNat_lt
  rw [← byte_J]; omega
theorem ret_u32 {a b : Int} (h : a = b) : Ending.returned (.int .u32 a) = .returned (.int .u32 b) := by rw [h]

theorem quo_J (q : Crc.Reg) : (J q).tdiv 2 % 4294967296 = J q / 2 := by
  have h0 := J_lo q
  have h1 := J_hi q
  rw [Int.tdiv_eq_ediv_of_nonneg h0]; omega

theorem subm_J (x : Crc.Reg) : (4294967295 - J x) % 4294967296 = J (~~~x) := by
  rw [sub_J]
  have h1 := J_lo (~~~x)
  have h2 := J_hi (~~~x)
  omega
set_option maxHeartbeats 400000 in
theorem more_any (a : Int) (h0 : 0 ≤ a) (H1 : Hid (a < 4294967296)) (s : ByteArray) (hs : s.size ≤ maxLen) (w : World) :
    Calls Try.prog 62 #[.int .u32 a, .string s] w fun e w' => e = .returned (.int .u32 (J (Crc.more (R a) s.data.toList))) ∧ w = w' := by
  unfold maxLen at hs
  have hsz : s.data.toList.length = s.size := Array.length_toList
  obtain ⟨x, hx⟩ : ∃ x, R a = x := ⟨_, rfl⟩
  have ea : a = J x := by rw [← hx, J_R a h0 H1.out]
  rw [hx]; clear hx H1 h0
  subst ea
  have Hsz := Lib.hid hsz; clear hsz
  have Em := Lib.hid (show bits .xor .u32 IntKind.u32.max (J x) = J (~~~x) from not_J x)
  go_enter Try.func62, Try.ntmps62
  go_wp2
  rw [Em.out]
  go_loop [5, 11] (fun q i => ∃ k : Nat, k ≤ s.size ∧ i = .int .i64 k ∧ q = .int .u32 (J (Crc.fwd (~~~x) (s.data.toList.take k)))) (fun _ i => s.size - (intOf i).toNat)
  case atStart => exact ⟨0, Nat.zero_le _, rfl, rfl⟩
  case round =>
    obtain ⟨k, hk, rfl, rfl⟩ := hrel
    by_cases hlt : k < s.size
    · have Hr := Lib.hid (fwd_round (~~~x) s.data.toList k (by rw [Hsz.out]; exact hlt))
      generalize Crc.fwd (~~~x) (s.data.toList.take k) = q at *
      have E2 := Lib.hid (show bits .xor .u32 (J q) ((s[k].toNat : Int) % 4294967296) = J (q ^^^ Crc.wide s[k]) by rw [byte_mod, xor_J])
      go_wp2
      rw [E2.out]
      go_loop [5, 20] (fun q' i => ∃ j : Nat, j ≤ 8 ∧ i = .int .i64 j ∧ q' = .int .u32 (J (Crc.steps j (q ^^^ Crc.wide s[k])))) (fun _ i => 8 - (intOf i).toNat)
      case atStart => exact ⟨0, Nat.zero_le _, rfl, rfl⟩
      case round =>
        obtain ⟨j, hj, rfl, rfl⟩ := hrel
        by_cases hl8 : j < 8
        · generalize hp : Crc.steps j (q ^^^ Crc.wide s[k]) = p
          have Hp := Lib.hid (show Crc.step p = Crc.steps (j + 1) (q ^^^ Crc.wide s[k]) by rw [← hp]; exact steps_round j _)
          clear hp
          go_wp2
          go_round
          case rel => exact ⟨j + 1, by omega, by go_num, by rw [← Hp.out, ← round_more, IntKind.wrap_u32']⟩
          case measure => simp [intOf]; omega
        · obtain rfl : j = 8 := by omega
          go_wp2
          go_round
          case rel => exact ⟨k + 1, by omega, by go_num, by rw [← Hr.out]; rfl⟩
          case measure => simp [intOf]; omega
    · obtain rfl : k = s.size := by omega
      go_wp2
      go_ret
      exact ⟨ret_u32 (by rw [List.take_of_length_le (by rw [Hsz.out]; exact Nat.le_refl _)]; exact not_J _), rfl⟩

set_option maxHeartbeats 400000 in
theorem sum_any (s : ByteArray) (hs : s.size ≤ maxLen) (w : World) :
    Calls Try.prog 55 #[.string s] w fun e w' => e = .returned (.int .u32 (J (Crc.sum s.data.toList))) ∧ w = w' := by
  have H1 := Lib.hid (show (0 : Int) < 4294967296 by decide)
  go_enter Try.func55, Try.ntmps55
  go_wp2_with fail
  refine (more_any 0 (by decide) H1 s hs w).mono ?_
  rintro e w' ⟨rfl, rfl⟩
  go_wp2
  go_ret
  exact ⟨rfl, rfl⟩

/-- The four bytes, of which k are in. -/
def chkRow (n k : Nat) : Array Value := #[if 0 < k then bv (UInt8.ofNat n) else .int .u8 0, if 1 < k then bv (UInt8.ofNat (n / 256)) else .int .u8 0, if 2 < k then bv (UInt8.ofNat (n / 65536)) else .int .u8 0, if 3 < k then bv (UInt8.ofNat (n / 16777216)) else .int .u8 0]
def chkAt (w : World) (B n k : Nat) : Prop := w.heap[B]? = some (.cells (chkRow n k) 90 (0, 0))
theorem chk_step {w : World} {B n k : Nat} (h : chkAt w B n k) (hk : k < 4) (v : Value) (hv : v = bv (UInt8.ofNat (n / 256 ^ k))) : chkAt (w.setCell ⟨B, k, none⟩ v) B n (k + 1) := by
  unfold chkAt at *
  simp only [World.setCell, Array.getElem?_modify, h, hv]
  match k, hk with
  | 0, _ => simp [chkRow]
  | 1, _ => simp [chkRow]
  | 2, _ => simp [chkRow]
  | 3, _ => simp [chkRow]
theorem chk_free {w : World} {B n k : Nat} (h : chkAt w B n k) (j : Nat) : w.frozen? ⟨B, j, none⟩ = false := by
  unfold chkAt at h
  simp [World.frozen?, h]
theorem chk_cell {w : World} {B n k : Nat} (h : chkAt w B n k) (j : Nat) (hj : j < 4) : ∃ v, w.cell? ⟨B, j, none⟩ = some v := by
  unfold chkAt at h
  match j, hj with
  | 0, _ => exact ⟨_, by simp [World.cell?, h, chkRow]; rfl⟩
  | 1, _ => exact ⟨_, by simp [World.cell?, h, chkRow]; rfl⟩
  | 2, _ => exact ⟨_, by simp [World.cell?, h, chkRow]; rfl⟩
  | 3, _ => exact ⟨_, by simp [World.cell?, h, chkRow]; rfl⟩
theorem chk_string {w : World} {B n : Nat} (h : chkAt w B n 4) : (convert 47 9 (.slice (some ⟨B, 0, none⟩) 4 4)).run Try.prog w = .ok (.string (str (le4 n))) w := by
  refine run_convert_bytes_back w 47 9 5 ⟨B, 0, none⟩ 4 (le4 n) Try.underlying47 Try.underlying5 Try.underlying9 (fun j hj => ?_)
  unfold chkAt at h
  have hj' : j < 4 := hj
  match j, hj' with
  | 0, _ => simp [Addr.add, World.cell?, h, chkRow, le4, bv]
  | 1, _ => simp [Addr.add, World.cell?, h, chkRow, le4, bv]
  | 2, _ => simp [Addr.add, World.cell?, h, chkRow, le4, bv]
  | 3, _ => simp [Addr.add, World.cell?, h, chkRow, le4, bv]

theorem chk_value (r : Crc.Reg) (k : Nat) : Value.int .u8 (J r / 2 ^ (8 * k) % 256) = bv (UInt8.ofNat (r.toNat / 256 ^ k)) := by
  unfold bv J
  rw [ofNat_val]
  congr 1
  rw [show (256 : Nat) ^ k = 2 ^ (8 * k) by rw [show (256 : Nat) = 2 ^ 8 from rfl, ← Nat.pow_mul], Int.natCast_emod, Int.natCast_ediv, Int.natCast_pow]
  rfl
set_option maxRecDepth 100000 in
set_option maxHeartbeats 2000000 in
theorem fcheck_any (s : ByteArray) (hs : s.size ≤ maxLen) (w : World) :
    Calls Try.prog 39 #[.string s] w fun e w' => e = .returned (.string (str (chkL s.data.toList))) ∧ Below w.heap.size w w' := by
  have HS := Lib.hid (sum_any s hs)
  have HE := Lib.hid (show chkL s.data.toList = le4 (Crc.sum s.data.toList).toNat from rfl)
  rw [HE.out]
  generalize Crc.sum s.data.toList = r at *
  have hr := Lib.hid r.isLt
  clear HE
  go_enter Try.func39, Try.ntmps39
  go_wp2_with fail
  refine (HS.out _).mono ?_
  rintro e w' ⟨rfl, rfl⟩
  go_wp2_with fail
  go_loopw [8] (fun p wr => ∃ k : Nat, k ≤ 4 ∧ p = .int .i64 k ∧ chkAt wr w.heap.size r.toNat k ∧ Below w.heap.size w wr) (fun p _ => 4 - (intOf p).toNat)
  case atStart => exact ⟨0, by omega, rfl, World.alloc_heap_new w _, (Below.refl _ _).alloc (Nat.le_refl _) _⟩
  case round =>
    obtain ⟨k, hk, rfl, hc, hB⟩ := hrel
    have HC := Lib.hid hc
    by_cases hlt : k < 4
    · have hf := chk_free hc k
      obtain ⟨v0, hv0⟩ := chk_cell hc k hlt
      clear hc
      have HV := Lib.hid (chk_value r k)
      go_wp2_with fail
      go_roundw
      case rel => exact ⟨k + 1, by omega, by go_num, chk_step HC.out hlt _ HV.out, hB.setCell (Nat.le_refl _) _⟩
      case measure => simp [intOf]; omega
    · obtain rfl : k = 4 := by omega
      have hcv := chk_string hc
      clear hc
      go_wp2
      go_ret
      exact ⟨rfl, hB⟩

theorem str_self (s : ByteArray) : str s.data.toList = s := rfl
theorem app_list (l : List UInt8) (s : ByteArray) : (str l ++ s).data.toList = l ++ s.data.toList := by rw [ByteArray.data_append, Array.toList_append]; rfl
/-- A payload's frame, and why there is none. -/
def frameS (s : ByteArray) : ByteArray := if s.size ≤ 8192 then str (frameL s.data.toList) else ⟨#[]⟩
theorem frame_str (s : ByteArray) : str (Marks.put s.size) ++ str (chkL (str (Marks.put s.size) ++ s).data.toList) ++ s = str (frameL s.data.toList) := by
  have e : ((s.data.toList.length : Nat) : Int) = (s.size : Int) := by rw [bytes_len]
  unfold frameL
  rw [e, app_list, ← str_append, ← str_append, str_self]

set_option maxRecDepth 100000 in
set_option maxHeartbeats 2000000 in
theorem frame_yes (s : ByteArray) (hs : s.size ≤ 8192) (w : World) :
    Calls Try.prog 19 #[.string s] w fun e w' => e = .returned (.tuple #[.string (str (frameL s.data.toList)), .int .i64 0]) ∧ Below w.heap.size w w' := by
  have hp := Marks.put_len (s.size : Int)
  have HP := Lib.hid (put_any (s.size : Int) (by omega) (by omega))
  have hz : (str (Marks.put s.size)).size ≤ 10 := by rw [str_size]; exact hp.2
  have hz2 : (str (Marks.put s.size) ++ s).size ≤ maxLen := by rw [ByteArray.size_append]; unfold maxLen; omega
  have HC := Lib.hid (fcheck_any (str (Marks.put s.size) ++ s) hz2)
  have HE := Lib.hid (frame_str s)
  have hz3 : (str (chkL (str (Marks.put s.size) ++ s).data.toList)).size ≤ 4 := by rw [str_size, chk_len]; exact Nat.le_refl _
  clear hz2 hp
  generalize chkL (str (Marks.put s.size) ++ s).data.toList = ck at *
  generalize str (Marks.put s.size) = mk at *
  generalize frameL s.data.toList = fr at *
  go_enter Try.func19, Try.ntmps19
  go_wp2_with fail
  refine (HP.out _).mono ?_
  rintro e w1 ⟨rfl, b1⟩
  go_wp2_with fail
  refine (HC.out _).mono ?_
  rintro e w2 ⟨rfl, b2⟩
  have hz4 : (mk ++ str ck).size ≤ 14 := by rw [ByteArray.size_append]; omega
  go_wp2
  go_ret2
  exact ⟨by rw [HE.out]; rfl, b1.trans (b2.mono b1.size)⟩
theorem frame_no (s : ByteArray) (hs : 8192 < s.size) (w : World) :
    Calls Try.prog 19 #[.string s] w fun e w' => e = .returned (.tuple #[.string ⟨#[]⟩, .int .i64 3]) ∧ w = w' := by
  go_enter Try.func19, Try.ntmps19
  go_wp2
  go_ret2
  exact ⟨rfl, rfl⟩
end Go.Proofs.Ytalilifegclelaa
