/- The walks of the statements of layer 1 on ints and texts: each returns true, and what was there stays. -/
import Derived.Test.YtadhfaefcdihgaaC1f
namespace Go.Proofs.Ytadhfaefcdihgaa
open Go.RowKit

theorem i64_lo {a : Int} (h : (Lit.int .i64 a).wf = true) : -9223372036854775808 ≤ a := by
  simp [Lit.wf, IntKind.min, IntKind.max, IntKind.signed, IntKind.bits] at h; omega
theorem i64_hi {a : Int} (h : (Lit.int .i64 a).wf = true) : a ≤ 9223372036854775807 := by
  simp [Lit.wf, IntKind.min, IntKind.max, IntKind.signed, IntKind.bits] at h; omega

set_option maxRecDepth 100000 in
set_option maxHeartbeats 1000000 in
theorem marksPut_walk (n : Int) (hn : (Lit.int .i64 n).wf = true) (w : World) :
    Calls Try.prog 3 #[.int .i64 n] w fun e w' => e = .returned (.bool true) ∧ Below w.heap.size w w' := by
  have H1 := Lib.hid (put_any n (i64_lo hn) (i64_hi hn))
  have H2 := Lib.hid (refPut_any n (i64_lo hn) (i64_hi hn))
  clear hn
  go_enter Try.func3, Try.ntmps3
  go_wp2_with fail
  refine (H1.out _).mono ?_
  rintro e w1 ⟨rfl, hb1⟩
  go_wp2_with fail
  refine (H2.out _).mono ?_
  rintro e w2 ⟨rfl, hb2⟩
  go_wp2_with fail
  refine (works_any _).mono ?_
  rintro e w3 ⟨rfl, hb3⟩
  go_wp2
  go_ret
  have hc2 := hb1.trans (hb2.mono hb1.size)
  exact ⟨rfl, hc2.trans (hb3.mono hc2.size)⟩

set_option maxRecDepth 100000 in
set_option maxHeartbeats 1000000 in
theorem marksGet_walk (s : ByteArray) (a : Int) (hs : s.size ≤ maxLen) (_ha : (Lit.int .i64 a).wf = true) (w : World) :
    Calls Try.prog 4 #[.string s, .int .i64 a] w fun e w' => e = .returned (.bool true) ∧ Below w.heap.size w w' := by
  have Hs := Lib.hid hs
  clear hs
  generalize hg : getI s.data.toList a = g
  have H1 := Lib.hid (get_any s Hs.out a)
  have H2 := Lib.hid (refGet_any s Hs.out a)
  rw [hg] at H1 H2
  clear hg
  obtain ⟨x, hx⟩ : ∃ x, gotN g = x := ⟨_, rfl⟩
  obtain ⟨y, hy⟩ : ∃ y, gotX g = y := ⟨_, rfl⟩
  obtain ⟨z, hz⟩ : ∃ z, g.isSome = z := ⟨_, rfl⟩
  rw [hx, hy, hz] at H1 H2
  clear hx hy hz
  go_enter Try.func4, Try.ntmps4
  go_wp2_with fail
  refine (H1.out _).mono ?_
  rintro e w1 ⟨rfl, rfl⟩
  go_wp2_with fail
  refine (H2.out _).mono ?_
  rintro e w2 ⟨rfl, hb2⟩
  go_wp2_with fail
  refine (works_any _).mono ?_
  rintro e w3 ⟨rfl, hb3⟩
  go_wp2
  go_ret
  exact ⟨rfl, hb2.trans (hb3.mono hb2.size)⟩

theorem cnt_ge (k f : Nat) (h : ¬ f < 128) (hf : f < 2 * 128 ^ k) : Marks.cnt k f = Marks.cnt (k - 1) (f / 128) + 1 ∧ f / 128 < 2 * 128 ^ (k - 1) ∧ 1 ≤ k := by
  cases k with
  | zero => simp at hf; omega
  | succ j =>
    rw [Nat.pow_succ] at hf
    exact ⟨by rw [Marks.cnt, if_neg h]; rfl, by simp only [Nat.add_sub_cancel]; omega, by omega⟩
theorem cnt_lt (k f : Nat) (h : f < 128) : Marks.cnt k f = 1 := by
  cases k with
  | zero => rfl
  | succ j => rw [Marks.cnt, if_pos h]

set_option maxRecDepth 100000 in
set_option maxHeartbeats 1000000 in
theorem marksFew_walk (n : Int) (hn : (Lit.int .i64 n).wf = true) (w : World) :
    Calls Try.prog 5 #[.int .i64 n] w fun e w' => e = .returned (.bool true) ∧ Below w.heap.size w w' := by
  have h0 := i64_lo hn
  have h1 := i64_hi hn
  have H1 := Lib.hid (put_any n h0 h1)
  have HF := Lib.hid (Marks.fold_lt n h0 h1)
  have HL : (str (Marks.put n)).size = Marks.cnt 9 (Marks.fold n) := by rw [str_size]; exact Marks.putF_cnt 9 _
  have hlen : Marks.cnt 9 (Marks.fold n) ≤ 10 := by rw [← Marks.putF_cnt]; exact (Marks.putF_len 9 _).2
  clear hn
  have E : ∃ f : Nat, f = Marks.fold n := ⟨_, rfl⟩
  obtain ⟨f, hf⟩ := E
  have Ef := Lib.hid hf
  rw [← hf] at HF HL hlen
  have hS : f < 2 * 128 ^ 9 := by rw [Marks.pow9]; exact HF.out
  generalize hN : Marks.cnt 9 f = N at *
  have HN := Lib.hid hN
  have HS := Lib.hid hS
  have HLL := Lib.hid HL
  clear hf HF hS hN HL
  by_cases hn : 0 ≤ n
  · have E := Lib.hid (show 2 * n = (f : Int) by rw [Ef.out]; unfold Marks.fold; rw [if_pos hn]; omega)
    go_enter Try.func5, Try.ntmps5
    go_wp2
    rw [E.out]
    clear h0 h1 hn E
    go_loop [3, 4] (fun q p => ∃ k g m : Nat, q = .int .u64 (g : Int) ∧ p = .int .i64 (m : Int) ∧ g < 2 * 128 ^ k ∧ k ≤ 9 ∧ m + Marks.cnt k g = N + 1) (fun q _ => (intOf q).toNat)
    case atStart => exact ⟨9, f, 1, rfl, rfl, HS.out, by omega, by rw [HN.out]; omega⟩
    case round =>
      obtain ⟨k, g, m, rfl, rfl, hg, hk, hm⟩ := hrel
      have EQ := Lib.hid (quo_u64 k g hg hk)
      by_cases hlt : g < 128
      · have hm2 : m = N := by rw [cnt_lt k g hlt] at hm; omega
        clear hm hg
        have g1 : (((str (Marks.put n)).size : Int) == (m : Int)) = true := by rw [HLL.out, hm2]; simp
        have g2 : m ≤ 10 := by omega
        have H2 := Lib.hid hm2
        clear hm2
        go_wp2_with fail
        refine (H1.out _).mono ?_
        rintro e w1 ⟨rfl, hb1⟩
        go_wp2_with fail
        refine (works_any _).mono ?_
        rintro e w3 ⟨rfl, hb3⟩
        go_wp2
        go_ret
        exact ⟨rfl, hb1.trans (hb3.mono hb1.size)⟩
      · obtain ⟨c1, c2, c3⟩ := cnt_ge k g hlt hg
        have HC := Lib.hid c1
        have HC2 := Lib.hid c2
        have HM := Lib.hid hm
        have hmN : m ≤ 10 := by omega
        clear hm hg c1 c2
        go_wp2
        rw [EQ.out]
        go_round
        case rel => exact ⟨k - 1, g / 128, m + 1, rfl, by go_num, HC2.out, by omega, by have := HM.out; rw [HC.out] at this; omega⟩
        case measure => simp [intOf]; omega
  · have E := Lib.hid (show 2 * -(n + 1) + 1 = (f : Int) by rw [Ef.out]; unfold Marks.fold; rw [if_neg hn]; omega)
    go_enter Try.func5, Try.ntmps5
    go_wp2
    rw [E.out]
    clear h0 h1 hn E
    go_loop [3, 4] (fun q p => ∃ k g m : Nat, q = .int .u64 (g : Int) ∧ p = .int .i64 (m : Int) ∧ g < 2 * 128 ^ k ∧ k ≤ 9 ∧ m + Marks.cnt k g = N + 1) (fun q _ => (intOf q).toNat)
    case atStart => exact ⟨9, f, 1, rfl, rfl, HS.out, by omega, by rw [HN.out]; omega⟩
    case round =>
      obtain ⟨k, g, m, rfl, rfl, hg, hk, hm⟩ := hrel
      have EQ := Lib.hid (quo_u64 k g hg hk)
      by_cases hlt : g < 128
      · have hm2 : m = N := by rw [cnt_lt k g hlt] at hm; omega
        clear hm hg
        have g1 : (((str (Marks.put n)).size : Int) == (m : Int)) = true := by rw [HLL.out, hm2]; simp
        have g2 : m ≤ 10 := by omega
        have H2 := Lib.hid hm2
        clear hm2
        go_wp2_with fail
        refine (H1.out _).mono ?_
        rintro e w1 ⟨rfl, hb1⟩
        go_wp2_with fail
        refine (works_any _).mono ?_
        rintro e w3 ⟨rfl, hb3⟩
        go_wp2
        go_ret
        exact ⟨rfl, hb1.trans (hb3.mono hb1.size)⟩
      · obtain ⟨c1, c2, c3⟩ := cnt_ge k g hlt hg
        have HC := Lib.hid c1
        have HC2 := Lib.hid c2
        have HM := Lib.hid hm
        have hmN : m ≤ 10 := by omega
        clear hm hg c1 c2
        go_wp2
        rw [EQ.out]
        go_round
        case rel => exact ⟨k - 1, g / 128, m + 1, rfl, by go_num, HC2.out, by omega, by have := HM.out; rw [HC.out] at this; omega⟩
        case measure => simp [intOf]; omega

theorem getText_yes {s t : ByteArray} {a : Int} {m : Nat} (hs : s.size ≤ maxLen) (h : getT s.data.toList a = some (t.data.toList, m)) (w : World) :
    Calls Try.prog 16 #[.string s, .int .i64 a] w fun e w' => e = .returned (.tuple #[.string t, .int .i64 (m : Int), .bool true]) ∧ w = w' := by
  have := getText_any s hs a w
  rw [h] at this; exact this
theorem getText_no {s : ByteArray} {a : Int} (hs : s.size ≤ maxLen) (h : getT s.data.toList a = none) (w : World) :
    Calls Try.prog 16 #[.string s, .int .i64 a] w fun e w' => e = .returned (.tuple #[.string ⟨#[]⟩, .int .i64 0, .bool false]) ∧ w = w' := by
  have := getText_any s hs a w
  rw [h] at this; exact this

theorem toList_append (a b : ByteArray) : (a ++ b).data.toList = a.data.toList ++ b.data.toList := by rw [ByteArray.data_append, Array.toList_append]

theorem getI_at (x y : List UInt8) (n : Int) (h0 : -9223372036854775808 ≤ n) (h1 : n ≤ 9223372036854775807) : getI (x ++ Marks.put n ++ y) (x.length : Int) = some (n, x.length + (Marks.put n).length) := by
  have hl := (Marks.put_len n).1
  unfold getI
  rw [if_pos ⟨by omega, by simp only [List.length_append]; omega⟩, Int.toNat_natCast, List.append_assoc, List.drop_left, Marks.get_put n y h0 h1]
  rfl
theorem getT_at (x t y : List UInt8) (h : t.length ≤ 9223372036854775807) : getT (x ++ putT t ++ y) (x.length : Int) = some (t, x.length + (putT t).length) := by
  have h1 := getI_at x (t ++ y) t.length (by omega) (by omega)
  have e : x ++ Marks.put t.length ++ (t ++ y) = x ++ putT t ++ y := by unfold putT; simp
  rw [e] at h1
  have hc := getC_yes h1 ⟨by omega, by rw [← e]; simp only [List.length_append]; omega⟩
  rw [getT_yes hc]
  congr 2
  · rw [← e, ← List.length_append, List.drop_left, List.take_left]
  · unfold putT; rw [List.length_append]; omega

set_option maxRecDepth 100000 in
set_option maxHeartbeats 1000000 in
theorem marksBack_walk (n : Int) (a b : ByteArray) (hn : (Lit.int .i64 n).wf = true) (_ha : a.size ≤ maxLen) (_hb : b.size ≤ maxLen) (w : World) :
    Calls Try.prog 7 #[.int .i64 n, .string a, .string b] w fun e w' => e = .returned (.bool true) ∧ Below w.heap.size w w' := by
  have h0 := i64_lo hn
  have h1 := i64_hi hn
  clear hn
  by_cases hla : a.size ≤ 1000
  · by_cases hlb : b.size ≤ 1000
    · have H1 := Lib.hid (put_any n h0 h1)
      have hz1 : (str (Marks.put n)).size ≤ 10 := by rw [str_size]; exact (Marks.put_len n).2
      have hz3 : (str (Marks.put (b.size : Int))).size ≤ 10 := by rw [str_size]; exact (Marks.put_len _).2
      have hz2 : (str (putT b.data.toList)).size ≤ 1010 := by
        rw [← putT_str, ByteArray.size_append]; omega
      have H2 := Lib.hid (putText_any b (by omega))
      have G1 := Lib.hid (get_yes (s := a ++ str (Marks.put n) ++ b) (a := (a.size : Int)) (n := n) (m := a.size + (str (Marks.put n)).size) (by simp only [ByteArray.size_append]; unfold maxLen; omega)
        (by rw [toList_append, toList_append, str_list, ← bytes_len a, getI_at _ _ n h0 h1, str_size]))
      have G2 := Lib.hid (getText_yes (s := a ++ str (putT b.data.toList) ++ str (Marks.put n)) (t := b) (a := (a.size : Int)) (m := a.size + (str (putT b.data.toList)).size) (by simp only [ByteArray.size_append]; unfold maxLen; omega)
        (by rw [toList_append, toList_append, str_list, str_list, ← bytes_len a, getT_at _ _ _ (by rw [bytes_len]; omega), str_size]))
      clear h0 h1
      generalize str (Marks.put n) = s at *
      generalize str (putT b.data.toList) = u at *
      have g1 : (((a.size + s.size : Nat) : Int) == (a.size : Int) + (s.size : Int)) = true := by simp
      have g2 : (((a.size + u.size : Nat) : Int) == (a.size : Int) + (u.size : Int)) = true := by simp
      go_enter Try.func7, Try.ntmps7
      go_wp2_with fail
      refine (H1.out _).mono ?_
      rintro e w1 ⟨rfl, hb1⟩
      go_wp2_with fail
      refine (G1.out _).mono ?_
      rintro e w2 ⟨rfl, rfl⟩
      go_wp2_with fail
      refine (H2.out _).mono ?_
      rintro e w2 ⟨rfl, hb2⟩
      go_wp2_with fail
      refine (G2.out _).mono ?_
      rintro e w3 ⟨rfl, rfl⟩
      have hc2 := hb1.trans (hb2.mono hb1.size)
      clear hb1 hb2
      go_wp2_with fail
      refine (H2.out _).mono ?_
      rintro e w3 ⟨rfl, hb3⟩
      have hc3 := hc2.trans (hb3.mono hc2.size)
      clear hc2 hb3
      go_wp2_with fail
      refine (works_any _).mono ?_
      rintro e w4 ⟨rfl, hb4⟩
      go_wp2
      go_ret
      exact ⟨rfl, hc3.trans (hb4.mono hc3.size)⟩
    · go_enter Try.func7, Try.ntmps7
      go_wp2
      go_ret
      exact ⟨rfl, Below.refl _ _⟩
  · go_enter Try.func7, Try.ntmps7
    go_wp2
    go_ret
    exact ⟨rfl, Below.refl _ _⟩
end Go.Proofs.Ytadhfaefcdihgaa
