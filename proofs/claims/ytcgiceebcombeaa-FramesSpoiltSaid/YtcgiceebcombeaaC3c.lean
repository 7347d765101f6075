/- The contracts of frames: check, Frame. -/
import Derived.Test.YtcgiceebcombeaaC3b
import Derived.Test.YtcgiceebcombeaaC3a
import Derived.BigQuiet
import Derived.WalkSmall
import Derived.StillTailTactics
import Derived.Lib.QuietBelow
namespace Go.Proofs.Ytcgiceebcombeaa
open Go.RowKit

/-- The four bytes, of which k are in. -/
def chkRow (n k : Nat) : Array Value := #[if 0 < k then bv (UInt8.ofNat n) else .int .u8 0, if 1 < k then bv (UInt8.ofNat (n / 256)) else .int .u8 0, if 2 < k then bv (UInt8.ofNat (n / 65536)) else .int .u8 0, if 3 < k then bv (UInt8.ofNat (n / 16777216)) else .int .u8 0]
def chkAt (w : World) (B n k : Nat) : Prop := w.heap[B]? = some (.cells (chkRow n k) 49 (0, 0))
theorem chk_step {w : World} {B n k : Nat} (h : chkAt w B n k) (hk : k < 4) (v : Value) (hv : v = bv (UInt8.ofNat (n / 256 ^ k))) : chkAt (w.setCell ⟨B, k, none⟩ v) B n (k + 1) := by
  unfold chkAt at *
  simp only [World.setCell, Array.getElem?_modify, h, hv]
  match k, hk with
  | 0, _ => simp [chkRow]
  | 1, _ => simp [chkRow]
  | 2, _ => simp [chkRow]
  | 3, _ => simp [chkRow]
theorem chk_free {w : World} {B n k : Nat} (h : chkAt w B n k) (j : Nat) : w.frozen? ⟨B, j, none⟩ = false := by
  unfold chkAt at h
  simp [World.frozen?, h]
theorem chk_cell {w : World} {B n k : Nat} (h : chkAt w B n k) (j : Nat) (hj : j < 4) : ∃ v, w.cell? ⟨B, j, none⟩ = some v := by
  unfold chkAt at h
  match j, hj with
  | 0, _ => exact ⟨_, by simp [World.cell?, h, chkRow]; rfl⟩
  | 1, _ => exact ⟨_, by simp [World.cell?, h, chkRow]; rfl⟩
  | 2, _ => exact ⟨_, by simp [World.cell?, h, chkRow]; rfl⟩
  | 3, _ => exact ⟨_, by simp [World.cell?, h, chkRow]; rfl⟩
theorem chk_string {w : World} {B n : Nat} (h : chkAt w B n 4) : (convert 39 9 (.slice (some ⟨B, 0, none⟩) 4 4)).run Try.prog w = .ok (.string (str (le4 n))) w := by
  refine run_convert_bytes_back w 39 9 5 ⟨B, 0, none⟩ 4 (le4 n) Try.underlying39 Try.underlying5 Try.underlying9 (fun j hj => ?_)
  unfold chkAt at h
  have hj' : j < 4 := hj
  match j, hj' with
  | 0, _ => simp [Addr.add, World.cell?, h, chkRow, le4, bv]
  | 1, _ => simp [Addr.add, World.cell?, h, chkRow, le4, bv]
  | 2, _ => simp [Addr.add, World.cell?, h, chkRow, le4, bv]
  | 3, _ => simp [Addr.add, World.cell?, h, chkRow, le4, bv]

theorem chk_value (r : Crc.Reg) (k : Nat) : Value.int .u8 (J r / 2 ^ (8 * k) % 256) = bv (UInt8.ofNat (r.toNat / 256 ^ k)) := by
  unfold bv J
  rw [ofNat_val]
  congr 1
  rw [show (256 : Nat) ^ k = 2 ^ (8 * k) by rw [show (256 : Nat) = 2 ^ 8 from rfl, ← Nat.pow_mul], Int.natCast_emod, Int.natCast_ediv, Int.natCast_pow]
  rfl
set_option maxRecDepth 100000 in
set_option maxHeartbeats 2000000 in
theorem check_any (s : ByteArray) (hs : s.size ≤ maxLen) (w : World) :
    Calls Try.prog 20 #[.string s] w fun e w' => e = .returned (.string (str (chkL s.data.toList))) ∧ Below w.heap.size w w' := by
  have HS := Lib.hid (sum_any s hs)
  have HE := Lib.hid (show chkL s.data.toList = le4 (Crc.sum s.data.toList).toNat from rfl)
  rw [HE.out]
  generalize Crc.sum s.data.toList = r at *
  have hr := Lib.hid r.isLt
  clear HE
  go_enter Try.func20, Try.ntmps20
  go_wp2_with fail
  refine (HS.out _).mono ?_
  rintro e w' ⟨rfl, rfl⟩
  go_wp2_with fail
  go_loopw [8] (fun p wr => ∃ k : Nat, k ≤ 4 ∧ p = .int .i64 k ∧ chkAt wr w.heap.size r.toNat k ∧ Below w.heap.size w wr) (fun p _ => 4 - (intOf p).toNat)
  case atStart => exact ⟨0, by omega, rfl, World.alloc_heap_new w _, (Below.refl _ _).alloc (Nat.le_refl _) _⟩
  case round =>
    obtain ⟨k, hk, rfl, hc, hB⟩ := hrel
    have HC := Lib.hid hc
    by_cases hlt : k < 4
    · have hf := chk_free hc k
      obtain ⟨v0, hv0⟩ := chk_cell hc k hlt
      clear hc
      have HV := Lib.hid (chk_value r k)
      go_wp2_with fail
      go_roundw
      case rel => exact ⟨k + 1, by omega, by go_num, chk_step HC.out hlt _ HV.out, hB.setCell (Nat.le_refl _) _⟩
      case measure => simp [intOf]; omega
    · obtain rfl : k = 4 := by omega
      have hcv := chk_string hc
      clear hc
      go_wp2
      go_ret
      exact ⟨rfl, hB⟩

theorem str_self (s : ByteArray) : str s.data.toList = s := rfl
theorem app_list (l : List UInt8) (s : ByteArray) : (str l ++ s).data.toList = l ++ s.data.toList := by rw [ByteArray.data_append, Array.toList_append]; rfl
/-- A payload's frame, and why there is none. -/
def frameS (s : ByteArray) : ByteArray := if s.size ≤ 8192 then str (frameL s.data.toList) else ⟨#[]⟩
theorem frame_str (s : ByteArray) : str (Marks.put s.size) ++ str (chkL (str (Marks.put s.size) ++ s).data.toList) ++ s = str (frameL s.data.toList) := by
  have e : ((s.data.toList.length : Nat) : Int) = (s.size : Int) := by rw [bytes_len]
  unfold frameL
  rw [e, app_list, ← str_append, ← str_append, str_self]

set_option maxRecDepth 100000 in
set_option maxHeartbeats 2000000 in
theorem frame_yes (s : ByteArray) (hs : s.size ≤ 8192) (w : World) :
    Calls Try.prog 10 #[.string s] w fun e w' => e = .returned (.tuple #[.string (str (frameL s.data.toList)), .int .i64 0]) ∧ Below w.heap.size w w' := by
  have hp := Marks.put_len (s.size : Int)
  have HP := Lib.hid (put_any (s.size : Int) (by omega) (by omega))
  have hz : (str (Marks.put s.size)).size ≤ 10 := by rw [str_size]; exact hp.2
  have hz2 : (str (Marks.put s.size) ++ s).size ≤ maxLen := by rw [ByteArray.size_append]; unfold maxLen; omega
  have HC := Lib.hid (check_any (str (Marks.put s.size) ++ s) hz2)
  have HE := Lib.hid (frame_str s)
  have hz3 : (str (chkL (str (Marks.put s.size) ++ s).data.toList)).size ≤ 4 := by rw [str_size, chk_len]; exact Nat.le_refl _
  clear hz2 hp
  generalize chkL (str (Marks.put s.size) ++ s).data.toList = ck at *
  generalize str (Marks.put s.size) = mk at *
  generalize frameL s.data.toList = fr at *
  go_enter Try.func10, Try.ntmps10
  go_wp2_with fail
  refine (HP.out _).mono ?_
  rintro e w1 ⟨rfl, b1⟩
  go_wp2_with fail
  refine (HC.out _).mono ?_
  rintro e w2 ⟨rfl, b2⟩
  have hz4 : (mk ++ str ck).size ≤ 14 := by rw [ByteArray.size_append]; omega
  go_wp2
  go_ret2
  exact ⟨by rw [HE.out]; rfl, b1.trans (b2.mono b1.size)⟩
theorem frame_no (s : ByteArray) (hs : 8192 < s.size) (w : World) :
    Calls Try.prog 10 #[.string s] w fun e w' => e = .returned (.tuple #[.string ⟨#[]⟩, .int .i64 3]) ∧ w = w' := by
  go_enter Try.func10, Try.ntmps10
  go_wp2
  go_ret2
  exact ⟨rfl, rfl⟩
end Go.Proofs.Ytcgiceebcombeaa
