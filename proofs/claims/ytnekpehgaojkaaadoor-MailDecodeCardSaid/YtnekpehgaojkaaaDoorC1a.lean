/- The contracts of the marks of ints: the program's Put, the reference's Fold and Put. -/
import Derived.Test.YtnekpehgaojkaaaDoorRows
import Derived.Test.YtnekpehgaojkaaaDoorMarksNum
import Derived.Test.YtnekpehgaojkaaaDoorAid
import Derived.WalkKit
import Derived.Lib.Hide
import Derived.Outline

import Derived.Laws.IdiomStrings
namespace Go.Proofs.YtnekpehgaojkaaaDoor
open Go.RowKit

def bv (c : UInt8) : Value := .int .u8 (c.toNat : Int)
def str (l : List UInt8) : ByteArray := ⟨l.toArray⟩
theorem str_size (l : List UInt8) : (str l).size = l.length := by show l.toArray.size = _; simp
theorem str_list (l : List UInt8) : (str l).data.toList = l := rfl

theorem info_u8 : (Tryd.prog.info? 5).map (fun i => (i.zero, i.size, i.bytes)) = some (some (.int .u8 0), 1, 1) := by kernel_rfl

/-- A slice of the call's own, as a string. -/
theorem run_string_owned {w : World} {B : Nat} {v : Value} {l : List UInt8} (h : w.ownsRow B 5 1 v l.length (l.map bv)) (hl : l ≠ []) :
    (convert 48 9 v).run Tryd.prog w = .ok (.string (str l)) w := by
  obtain ⟨_, hv⟩ := h
  rcases hv with ⟨_, h0⟩ | ⟨g, cap, cur, rfl, hg, hh, hn, hc, hs, ht⟩
  · exact absurd (List.eq_nil_of_length_eq_zero h0) hl
  · refine run_convert_bytes_back w 48 9 5 _ cap l Tryd.underlying48 Tryd.underlying5 Tryd.underlying9 (fun j hj => ?_)
    have e : w.cell? ⟨g, j, none⟩ = some (.int .u8 (l[j].toNat : Int)) := by
      have h1 : cur.toList[j]? = some (bv l[j]) := by
        have h2 : (cur.toList.take (l.length * 1))[j]? = some (bv l[j]) := by
          rw [ht]; simp [hj]
        rw [List.getElem?_take_of_lt (by omega)] at h2
        exact h2
      simp only [World.cell?, hh]
      simpa [bv] using h1
    by_cases e0 : j = 0
    · subst e0; simpa [Addr.add] using e
    · simpa [Addr.add, e0] using e

theorem new_at (w : World) (v : Value) (t : TypeId) : ∀ (j : Nat) (u : Value), [v][j]? = some u → (w.alloc (.cells #[v] t)).cell? ((⟨w.heap.size, 0, none⟩ : Addr).add j) = some u := by
  intro j u h
  cases j with
  | zero =>
    simp at h; subst h
    simp [Addr.add]
  | succ j => simp at h
theorem one_int (k : IntKind) (n : Int) : ∀ u ∈ [Value.int k n], u.oneCell' = true := by
  intro u hu
  simp at hu; subst hu; rfl
theorem bv_of (g : Nat) (h : g < 256) : bv (UInt8.ofNat g) = .int .u8 (g : Int) := by
  unfold bv; rw [Marks.toNat_ofNat g h]

/-- The bytes that have been put so far, and what is still to put. -/
def Putting (w wr : World) (n : Int) (f v : Value) : Prop :=
  ∃ (k g : Nat) (pre : List UInt8), f = .int .u64 (g : Int) ∧ g < 2 * 128 ^ k ∧ pre.length + k = 9 ∧ pre ++ Marks.putF k g = Marks.put n ∧
    wr.ownsRow w.heap.size 5 1 v pre.length (pre.map bv) ∧ Below w.heap.size w wr

theorem putting_start (w : World) (n : Int) (h0 : -9223372036854775808 ≤ n) (h1 : n ≤ 9223372036854775807) : Putting w w n (.int .u64 (Marks.fold n : Nat)) (.slice none 0 0) :=
  ⟨9, Marks.fold n, [], rfl, by rw [Marks.pow9]; exact Marks.fold_lt n h0 h1, rfl, rfl, ⟨rfl, .inl ⟨rfl, rfl⟩⟩, Below.refl _ _⟩

theorem owns_snoc {w : World} {B : Nat} {v : Value} {pre : List UInt8} {c : UInt8} (h : w.ownsRow B 5 1 v (pre.length + 1) (pre.map bv ++ [bv c])) : w.ownsRow B 5 1 v (pre ++ [c]).length ((pre ++ [c]).map bv) := by
  simpa using h

theorem grew {w wr w1 : World} {v : Value} {e : TypeId} {size n : Nat} {xs : List Value} {o : Obj} (hB : Below w.heap.size w wr) (hown : wr.ownsRow w.heap.size e size v n xs) (hg : (wr.alloc o).grownBy w1 v.ownBlock) : Below w.heap.size w w1 :=
  (hB.alloc hB.size o).grown hg (by have := hB.size; simp; omega) (fun k hk => (hown.lt k hk).1)

theorem putF_step (k g : Nat) (h : ¬ g < 128) (hg : g < 2 * 128 ^ k) : ∃ j, k = j + 1 ∧ g / 128 < 2 * 128 ^ j ∧ Marks.putF k g = UInt8.ofNat (g % 128 + 128) :: Marks.putF j (g / 128) := by
  cases k with
  | zero => simp at hg; omega
  | succ j => exact ⟨j, rfl, by rw [Nat.pow_succ] at hg; omega, by rw [Marks.putF, if_neg h]⟩
theorem quo_u64 (k g : Nat) (h : g < 2 * 128 ^ k) (hk : k ≤ 9) : IntKind.u64.wrap ((g : Int) / 128) = ((g / 128 : Nat) : Int) := by
  have h1 : 128 ^ k ≤ 128 ^ 9 := Nat.pow_le_pow_right (by decide) hk
  have h2 := Marks.pow9
  rw [IntKind.wrap_u64]; omega
theorem putF_end (k g : Nat) (h : g < 128) : Marks.putF k g = [UInt8.ofNat g] := by
  cases k with
  | zero => rfl
  | succ j => rw [Marks.putF, if_pos h]

/-- A byte more. -/
theorem putting_more {w wr w1 : World} {n : Int} {k g : Nat} {pre : List UInt8} {v v' : Value} {o : Obj} (hlt : ¬ g < 128) (hg : g < 2 * 128 ^ k) (hk : pre.length + k = 9) (hp : pre ++ Marks.putF k g = Marks.put n)
    (hown : wr.ownsRow w.heap.size 5 1 v pre.length (pre.map bv)) (hB : Below w.heap.size w wr) (hown' : w1.ownsRow w.heap.size 5 1 v' (pre.length + 1) (pre.map bv ++ [bv (UInt8.ofNat (g % 128 + 128))])) (hgr : (wr.alloc o).grownBy w1 v.ownBlock) :
    Putting w w1 n (.int .u64 ((g / 128 : Nat) : Int)) v' := by
  obtain ⟨j, rfl, h1, h2⟩ := putF_step k g hlt hg
  exact ⟨j, g / 128, pre ++ [UInt8.ofNat (g % 128 + 128)], rfl, h1, by simp; omega, by rw [← hp, h2]; simp, owns_snoc hown', grew hB hown hgr⟩

/-- The last one. -/
theorem putting_last {w1 : World} {n : Int} {k g B : Nat} {pre : List UInt8} {v' : Value} (hlt : g < 128) (hp : pre ++ Marks.putF k g = Marks.put n) (hown' : w1.ownsRow B 5 1 v' (pre.length + 1) (pre.map bv ++ [bv (UInt8.ofNat g)])) :
    (convert 48 9 v').run Tryd.prog w1 = .ok (.string (str (Marks.put n))) w1 := by
  rw [putF_end k g hlt] at hp
  rw [← hp]
  exact run_string_owned (owns_snoc hown') (by simp)

set_option maxRecDepth 100000 in
set_option maxHeartbeats 1000000 in
theorem put_any (n : Int) (h0 : -9223372036854775808 ≤ n) (h1 : n ≤ 9223372036854775807) (w : World) :
    Calls Tryd.prog 40 #[.int .i64 n] w fun e w' => e = .returned (.string (str (Marks.put n))) ∧ Below w.heap.size w w' := by
  obtain ⟨i0, hi, hz0, hz1, hz2⟩ := info_parts info_u8
  have E := Lib.hid (fold_program n h0 h1)
  have S := Lib.hid (putting_start w n h0 h1)
  go_enter Tryd.func40, Tryd.ntmps40
  go_wp2
  rw [E.out]
  clear h0 h1
  go_loopw [3, 4] (fun f v wr => Putting w wr n f v) (fun f _ _ => (intOf f).toNat)
  case atStart => exact S.out
  case round =>
    obtain ⟨k, g, pre, rfl, hg, hk, hp, hown, hB⟩ := hrel
    have hBs := hB.size
    have HG := Lib.hid hg
    have HP := Lib.hid hp
    have hkl : pre.length ≤ 9 := by omega
    have HK := Lib.hid hk
    clear hg hp hk
    by_cases hlt : g < 128
    · go_wp2_with (at_builtin; refine wpList_append_own _ rfl _ _ 48 rfl w.heap.size 5 i0 (.int .u8 0) 1 1 Tryd.underlying48 hi hz0 hz1 hz2 rfl (by decide) _ _ _ rfl (hown.alloc _) ⟨wr.heap.size, 0, none⟩ 1 1 [.int .u8 (g : Int)] rfl rfl (new_at _ _ _) (one_int _ _) (by unfold maxLen; omega) (by omega) (by simp; omega) ?_)
      intro v' w1 hown' hgr _
      have hcv := putting_last hlt HP.out (by rw [bv_of g (by omega)]; exact hown')
      have hB1 := grew hB hown hgr
      go_wp2
      go_ret
      exact ⟨rfl, hB1⟩
    · have EB := Lib.hid (byte_more g)
      go_wp2_with (at_builtin; refine wpList_append_own _ rfl _ _ 48 rfl w.heap.size 5 i0 (.int .u8 0) 1 1 Tryd.underlying48 hi hz0 hz1 hz2 rfl (by decide) _ _ _ rfl (hown.alloc _) ⟨wr.heap.size, 0, none⟩ 1 1 [.int .u8 (bits .or .u8 ((g : Int) % 256) 128)] rfl rfl (new_at _ _ _) (one_int _ _) (by unfold maxLen; omega) (by omega) (by simp; omega) ?_)
      intro v' w1 hown' hgr _
      rw [EB.out] at hown'
      have hP := Lib.hid (putting_more hlt HG.out HK.out HP.out hown hB hown' hgr)
      clear hown' hgr
      go_wp2
      go_roundw
      case rel => exact hP.out
      case measure => simp [intOf]; omega

theorem ret_u64 {a b : Int} (h : a = b) : Ending.returned (.int .u64 a) = .returned (.int .u64 b) := by rw [h]

set_option maxHeartbeats 400000 in
theorem fold_any (n : Int) (h0 : -9223372036854775808 ≤ n) (h1 : n ≤ 9223372036854775807) (w : World) :
    Calls Tryd.prog 56 #[.int .i64 n] w fun e w' => e = .returned (.int .u64 (Marks.fold n : Nat)) ∧ w = w' := by
  by_cases hn : 0 ≤ n
  · have E := Lib.hid (show 2 * n = (Marks.fold n : Nat) by unfold Marks.fold; rw [if_pos hn]; omega)
    go_enter Tryd.func56, Tryd.ntmps56
    go_wp2
    go_ret
    exact ⟨ret_u64 E.out, rfl⟩
  · have E := Lib.hid (show 2 * -(n + 1) + 1 = (Marks.fold n : Nat) by unfold Marks.fold; rw [if_neg hn]; omega)
    go_enter Tryd.func56, Tryd.ntmps56
    go_wp2
    go_ret
    exact ⟨ret_u64 E.out, rfl⟩

set_option maxRecDepth 100000 in
set_option maxHeartbeats 1000000 in
theorem refPut_any (n : Int) (h0 : -9223372036854775808 ≤ n) (h1 : n ≤ 9223372036854775807) (w : World) :
    Calls Tryd.prog 48 #[.int .i64 n] w fun e w' => e = .returned (.string (str (Marks.put n))) ∧ Below w.heap.size w w' := by
  obtain ⟨i0, hi, hz0, hz1, hz2⟩ := info_parts info_u8
  have S := Lib.hid (putting_start w n h0 h1)
  have F := Lib.hid (fold_any n h0 h1)
  go_enter Tryd.func48, Tryd.ntmps48
  go_wp2_with fail
  refine (F.out _).mono ?_
  rintro e w' ⟨rfl, rfl⟩
  go_wp2
  clear h0 h1
  go_loopw [3, 4] (fun f v wr => Putting w wr n f v) (fun f _ _ => (intOf f).toNat)
  case atStart => exact S.out
  case round =>
    obtain ⟨k, g, pre, rfl, hg, hk, hp, hown, hB⟩ := hrel
    have hBs := hB.size
    have HG := Lib.hid hg
    have HP := Lib.hid hp
    have hkl : pre.length ≤ 9 := by omega
    have HK := Lib.hid hk
    have EQ := Lib.hid (quo_u64 k g hg (by omega))
    clear hg hp hk
    by_cases hlt : g < 128
    · go_wp2_with (at_builtin; refine wpList_append_own _ rfl _ _ 48 rfl w.heap.size 5 i0 (.int .u8 0) 1 1 Tryd.underlying48 hi hz0 hz1 hz2 rfl (by decide) _ _ _ rfl (hown.alloc _) ⟨wr.heap.size, 0, none⟩ 1 1 [.int .u8 (g : Int)] rfl rfl (new_at _ _ _) (one_int _ _) (by unfold maxLen; omega) (by omega) (by simp; omega) ?_)
      intro v' w1 hown' hgr _
      have hcv := putting_last hlt HP.out (by rw [bv_of g (by omega)]; exact hown')
      have hB1 := grew hB hown hgr
      go_wp2
      go_ret
      exact ⟨rfl, hB1⟩
    · have EB := Lib.hid (byte_ref g)
      go_wp2_with (at_builtin; refine wpList_append_own _ rfl _ _ 48 rfl w.heap.size 5 i0 (.int .u8 0) 1 1 Tryd.underlying48 hi hz0 hz1 hz2 rfl (by decide) _ _ _ rfl (hown.alloc _) ⟨wr.heap.size, 0, none⟩ 1 1 [.int .u8 ((g : Int) % 128 + 128)] rfl rfl (new_at _ _ _) (one_int _ _) (by unfold maxLen; omega) (by omega) (by simp; omega) ?_)
      intro v' w1 hown' hgr _
      rw [EB.out] at hown'
      have hP := Lib.hid (putting_more hlt HG.out HK.out HP.out hown hB hown' hgr)
      clear hown' hgr
      go_wp2
      rw [EQ.out]
      go_roundw
      case rel => exact hP.out
      case measure => simp [intOf]; omega
end Go.Proofs.YtnekpehgaojkaaaDoor
