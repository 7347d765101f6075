/- The walk of MarksCut. -/
import Derived.Test.YtadhfaefcdihgaaC1j
namespace Go.Proofs.Ytadhfaefcdihgaa
open Go.RowKit

theorem getI_of {l : List UInt8} {p : Nat} {n : Int} {k : Nat} (hn : -9223372036854775808 ≤ n ∧ n ≤ 9223372036854775807) (h : (l.drop p).take k = Marks.put n) (hk : k = (Marks.put n).length) : getI l p = some (n, p + k) := by
  have h1 := (Marks.put_len n).1
  have hl : p < l.length := by
    have := congrArg List.length h
    rw [List.length_take, List.length_drop] at this
    omega
  unfold getI
  rw [if_pos ⟨by omega, by omega⟩, Int.toNat_natCast, (Marks.get_iff (l.drop p) n k).2 ⟨hn, h, hk⟩]
  rfl
theorem getI_mono {l : List UInt8} {i p : Nat} {n : Int} {q : Nat} (h : getI (l.take i) p = some (n, q)) : getI l p = some (n, q) ∧ q ≤ i := by
  obtain ⟨h1, h2, h3, h4, h5, h6, h7⟩ := getI_bounds h
  rw [Int.toNat_natCast] at h7
  rw [List.length_take] at h4
  have hle : (Marks.put n).length = q - p := by
    rw [← h7, List.length_take, List.length_drop, List.length_take]; omega
  have h8 : (l.drop p).take (q - p) = Marks.put n := by
    rw [← h7, List.drop_take, List.take_take]
    congr 1; omega
  refine ⟨?_, by omega⟩
  rw [getI_of ⟨h5, h6⟩ h8 hle.symm]
  congr 2; omega
theorem getK_mono {l : List UInt8} {i n p : Nat} {xs : List Int} {q : Nat} (h : getK (l.take i) n p = some (xs, q)) (hp : p ≤ i) : getK l n p = some (xs, q) ∧ q ≤ i := by
  induction n generalizing p xs q with
  | zero =>
    simp only [getK, Option.some.injEq, Prod.mk.injEq] at h
    obtain ⟨rfl, rfl⟩ := h
    exact ⟨rfl, hp⟩
  | succ n ih =>
    rw [getK, Option.bind_eq_some_iff] at h
    obtain ⟨⟨x, r⟩, hx, h2⟩ := h
    rw [Option.map_eq_some_iff] at h2
    obtain ⟨⟨ys, q'⟩, hy, he⟩ := h2
    cases he
    obtain ⟨e1, e2⟩ := getI_mono hx
    obtain ⟨e3, e4⟩ := ih hy e2
    refine ⟨?_, e4⟩
    rw [getK, e1]
    simp only [Option.bind_some, e3, Option.map_some]
theorem getC_mono {l : List UInt8} {i : Nat} {n : Int} {q : Nat} (h : getC (l.take i) 0 = some (n, q)) : getC l 0 = some (n, q) ∧ q ≤ i ∧ (q : Int) + n ≤ i := by
  obtain ⟨h1, h2, h3⟩ := getC_some h
  obtain ⟨e1, e2⟩ := getI_mono (p := 0) h1
  rw [List.length_take] at h3
  exact ⟨getC_yes e1 ⟨h2, by omega⟩, e2, by omega⟩

theorem getK_at (l : List Int) (x y : List UInt8) (hi : InI64 l) : getK (x ++ (l.map Marks.put).flatten ++ y) l.length x.length = some (l, x.length + ((l.map Marks.put).flatten).length) := by
  induction l generalizing x with
  | nil => simp [getK]
  | cons n l ih =>
    obtain ⟨h0, h1⟩ := hi n (by simp)
    have hg := getI_at x ((l.map Marks.put).flatten ++ y) n h0 h1
    have e : x ++ Marks.put n ++ ((l.map Marks.put).flatten ++ y) = x ++ ((n :: l).map Marks.put).flatten ++ y := by simp
    rw [e] at hg
    have hk := ih (x ++ Marks.put n) (fun m hm => hi m (by simp [hm]))
    have e2 : x ++ Marks.put n ++ (l.map Marks.put).flatten ++ y = x ++ ((n :: l).map Marks.put).flatten ++ y := by simp
    rw [e2, List.length_append] at hk
    rw [List.length_cons, getK, hg]
    simp only [Option.bind_some, hk, Option.map_some]
    congr 2
    simp; omega
theorem putL_eq (l : List Int) : putL l = Marks.put l.length ++ (l.map Marks.put).flatten := by unfold putL putK; rw [List.take_length]
theorem flat_len (l : List Int) : l.length ≤ ((l.map Marks.put).flatten).length := by
  induction l with
  | nil => simp
  | cons n l ih =>
    have := (Marks.put_len n).1
    simp only [List.map_cons, List.flatten_cons, List.length_append, List.length_cons]; omega
theorem getC_putL (l : List Int) (hl : l.length ≤ 9223372036854775807) : getC (putL l) 0 = some ((l.length : Int), (Marks.put l.length).length) := by
  have h1 := getI_at [] ((l.map Marks.put).flatten) l.length (by omega) (by omega)
  rw [List.nil_append, ← putL_eq] at h1
  simp only [List.length_nil, Nat.zero_add] at h1
  refine getC_yes h1 ⟨by omega, ?_⟩
  have := flat_len l
  rw [putL_eq, List.length_append]; omega
theorem getA_putL (l : List Int) (hl : l.length ≤ 9223372036854775807) (hi : InI64 l) : getA (putL l) 0 = some (l, (putL l).length) := by
  have hk := getK_at l (Marks.put l.length) [] hi
  rw [List.append_nil, ← List.length_append, ← putL_eq] at hk
  exact getA_yes (getC_putL l hl) hk
theorem cut_int (n : Int) (hn : -9223372036854775808 ≤ n ∧ n ≤ 9223372036854775807) (i : Nat) (h : i < (Marks.put n).length) : getI ((Marks.put n).take i) 0 = none := by
  cases hg : getI ((Marks.put n).take i) 0 with
  | none => rfl
  | some x =>
    obtain ⟨m, q⟩ := x
    obtain ⟨e1, e2⟩ := getI_mono (p := 0) hg
    have h1 := getI_at [] [] n hn.1 hn.2
    rw [List.nil_append, List.append_nil] at h1
    have := h1.symm.trans e1
    simp only [List.length_nil, Nat.zero_add, Option.some.injEq, Prod.mk.injEq] at this
    omega
theorem cut_text (t : List UInt8) (ht : t.length ≤ 9223372036854775807) (i : Nat) (h : i < (putT t).length) : getT ((putT t).take i) 0 = none := by
  cases hg : getC ((putT t).take i) 0 with
  | none => exact getT_no hg
  | some x =>
    obtain ⟨m, q⟩ := x
    obtain ⟨e1, e2, e3⟩ := getC_mono hg
    have h1 := getI_at [] t t.length (by omega) (by omega)
    rw [List.nil_append] at h1
    have h2 := h1.symm.trans (getC_some e1).1
    simp only [List.length_nil, Nat.zero_add, Option.some.injEq, Prod.mk.injEq] at h2
    have : (putT t).length = (Marks.put t.length).length + t.length := by unfold putT; rw [List.length_append]
    omega
theorem cut_list (l : List Int) (hl : l.length ≤ 9223372036854775807) (hi : InI64 l) (i : Nat) (h : i < (putL l).length) : getA ((putL l).take i) 0 = none := by
  cases hg : getC ((putL l).take i) 0 with
  | none => exact getA_no hg
  | some x =>
    obtain ⟨m, q⟩ := x
    obtain ⟨e1, e2, _⟩ := getC_mono hg
    unfold getA
    rw [hg, Option.bind_some]
    cases hk : getK ((putL l).take i) m.toNat q with
    | none => rfl
    | some y =>
      obtain ⟨xs, r⟩ := y
      obtain ⟨e3, e4⟩ := getK_mono hk e2
      have h1 := getA_putL l hl hi
      unfold getA at h1
      rw [e1, Option.bind_some, e3] at h1
      simp only [Option.some.injEq, Prod.mk.injEq] at h1
      omega

theorem getAll_yes {s : ByteArray} {a : Int} {xs : List Int} {q : Nat} (hs : s.size ≤ 1000000) (h : getA s.data.toList a = some (xs, q)) (w : World) :
    Calls Try.prog 23 #[.string s, .int .i64 a] w fun e w' => ∃ v, e = .returned (.tuple #[v, .int .i64 (q : Int), .bool true]) ∧ w'.ownsRow w.heap.size 3 1 v xs.length (xs.map (Value.int .i64)) ∧ Below w.heap.size w w' := by
  have := getAll_any s hs a w
  rw [h] at this; exact this

theorem cut_str (l : List UInt8) (i : Nat) : ((str l).extract 0 i).data.toList = l.take i := by
  rw [extract_list, Nat.sub_zero, List.drop_zero]; rfl
theorem extract_size_le (s : ByteArray) (i : Nat) : (s.extract 0 i).size ≤ s.size := by
  rw [ByteArray.size_extract]; omega

set_option maxRecDepth 100000 in
set_option maxHeartbeats 4000000 in
theorem marksCut_walk (n : Int) (t : ByteArray) (l : List Int) (v : Value) (hn : (Lit.int .i64 n).wf = true) (_ht : t.size ≤ maxLen) (hl : ∀ n ∈ l, (Lit.int .i64 n).wf = true) (w : World) (hv : IntsIn .i64 w v l) :
    Calls Try.prog 10 #[.int .i64 n, .string t, v] w fun e w' => e = .returned (.bool true) ∧ Below w.heap.size w w' := by
  have hi64 : InI64 l := fun n hn => ⟨i64_lo (hl n hn), i64_hi (hl n hn)⟩
  have n0 := i64_lo hn
  have n1 := i64_hi hn
  have HV := Lib.hid hv.1
  clear hl hn
  obtain ⟨⟨ad, cap, rfl, hq1⟩, hq2⟩ := hv
  clear hq1 hq2
  by_cases ht : t.size ≤ 1000
  · by_cases hk : l.length ≤ 100
    · have hl8 : l.length ≤ 1000000 := by omega
      have HP1 := Lib.hid (put_any n n0 n1)
      have hz3 : (str (Marks.put (t.size : Int))).size ≤ 10 := by rw [str_size]; exact (Marks.put_len _).2
      have hz2 : (str (putT t.data.toList)).size ≤ 1010 := by rw [← putT_str, ByteArray.size_append]; omega
      have hz1 : (str (Marks.put n)).size ≤ 10 := by rw [str_size]; exact (Marks.put_len _).2
      have hz4 : (str (putL l)).size ≤ 1010 := by
        rw [str_size]
        have := putK_len l l.length
        unfold putL; omega
      have HP2 := Lib.hid (putText_any t (by omega))
      have HP3 := Lib.hid (fun w h => putAll_any l hl8 hi64 (.slice ad l.length cap) w h)
      have HN1 := Lib.hid (fun i (h : i < (str (Marks.put n)).size) => show getI ((str (Marks.put n)).extract 0 i).data.toList 0 = none by
        rw [cut_str]; exact cut_int n ⟨n0, n1⟩ i (by rw [← str_size]; exact h))
      have HN2 := Lib.hid (fun i (h : i < (str (putT t.data.toList)).size) => show getT ((str (putT t.data.toList)).extract 0 i).data.toList 0 = none by
        rw [cut_str]; exact cut_text _ (by rw [bytes_len]; omega) i (by rw [← str_size]; exact h))
      have HN3 := Lib.hid (fun i (h : i < (str (putL l)).size) => show getA ((str (putL l)).extract 0 i).data.toList 0 = none by
        rw [cut_str]; exact cut_list _ (by omega) hi64 i (by rw [← str_size]; exact h))
      have HA := Lib.hid (show getA (str (putL l)).data.toList 0 = some (l, (str (putL l)).size) by rw [str_list, str_size]; exact getA_putL l (by omega) hi64)
      clear n0 n1 hi64 hz3
      generalize str (Marks.put n) = s1 at *
      generalize str (putT t.data.toList) = s2 at *
      generalize str (putL l) = s3 at *
      have d1 : decide ((1000 : Int) < (t.size : Int)) = false := by rw [decide_eq_false_iff_not]; omega
      have d2 : decide ((100 : Int) < (l.length : Int)) = false := by rw [decide_eq_false_iff_not]; omega
      go_enter Try.func10, Try.ntmps10
      go_wp2_with fail
      refine (HP1.out _).mono ?_
      rintro e w1 ⟨rfl, hb1⟩
      go_wp2_with fail
      refine (HP2.out _).mono ?_
      rintro e w2 ⟨rfl, hb2⟩
      have hB2 := hb1.trans (hb2.mono hb1.size)
      clear hb1 hb2
      go_wp2_with fail
      refine (HP3.out _ (HV.out.below hB2)).mono ?_
      rintro e w3 ⟨rfl, hb3⟩
      have hB3 := hB2.trans (hb3.mono hB2.size)
      clear hb3 hB2
      go_wp2
      go_loop [10] (fun p => ∃ k : Nat, k ≤ s1.size ∧ p = .int .i64 k) (fun p => s1.size - (intOf p).toNat)
      case atStart => exact ⟨0, Nat.zero_le _, rfl⟩
      case round =>
        obtain ⟨k1, hk1, rfl⟩ := hrel
        by_cases hlt : k1 < s1.size
        · have HG := Lib.hid (get_no (s := s1.extract 0 k1) (a := 0) (by have := extract_size_le s1 k1; unfold maxLen; omega) (HN1.out k1 hlt))
          go_wp2_with fail
          refine (HG.out _).mono ?_
          rintro e w4 ⟨rfl, rfl⟩
          go_wp2
          go_round
          case rel => exact ⟨k1 + 1, by omega, by go_num⟩
          case measure => simp [intOf]; omega
        · obtain rfl : k1 = s1.size := by omega
          go_wp2
          go_loop [14] (fun p => ∃ k : Nat, k ≤ s2.size ∧ p = .int .i64 k) (fun p => s2.size - (intOf p).toNat)
          case atStart => exact ⟨0, Nat.zero_le _, rfl⟩
          case round =>
            obtain ⟨k2, hk2, rfl⟩ := hrel
            by_cases hlt : k2 < s2.size
            · have HG := Lib.hid (getText_no (s := s2.extract 0 k2) (a := 0) (by have := extract_size_le s2 k2; unfold maxLen; omega) (HN2.out k2 hlt))
              go_wp2_with fail
              refine (HG.out _).mono ?_
              rintro e w4 ⟨rfl, rfl⟩
              go_wp2
              go_round
              case rel => exact ⟨k2 + 1, by omega, by go_num⟩
              case measure => simp [intOf]; omega
            · obtain rfl : k2 = s2.size := by omega
              go_wp2
              go_loopw [18] (fun p wr => ∃ k : Nat, k ≤ s3.size ∧ p = .int .i64 k ∧ Below w.heap.size w wr) (fun p _ => s3.size - (intOf p).toNat)
              case atStart => exact ⟨0, Nat.zero_le _, rfl, hB3⟩
              case round =>
                obtain ⟨k3, hk3, rfl, hBr⟩ := hrel
                clear hB3
                by_cases hlt : k3 < s3.size
                · have HG := Lib.hid (fun w => getAll_any (s3.extract 0 k3) (by have := extract_size_le s3 k3; omega) 0 w)
                  rw [HN3.out k3 hlt] at HG
                  go_wp2_with fail
                  refine (HG.out _).mono ?_
                  rintro e w4 ⟨v4, rfl, _, hb4⟩
                  have hB4 := hBr.trans (hb4.mono hBr.size)
                  clear hBr hb4
                  go_wp2
                  go_roundw
                  case rel => exact ⟨k3 + 1, by omega, by go_num, hB4⟩
                  case measure => simp [intOf]; omega
                · obtain rfl : k3 = s3.size := by omega
                  have HG := Lib.hid (getAll_yes (s := s3) (a := 0) (by omega) HA.out)
                  go_wp2_with fail
                  refine (HG.out _).mono ?_
                  rintro e w4 ⟨v4, rfl, hown4, hb4⟩
                  have hB4 := hBr.trans (hb4.mono hBr.size)
                  have HI4 := Lib.hid (ints_of_owns (xs := l) hown4)
                  have HV4 := Lib.hid (HV.out.below hB4)
                  clear hBr hb4 hown4
                  go_wp2_with fail
                  refine (sameInts_yes l hl8 _ _ _ HI4.out HV4.out).mono ?_
                  rintro e w5 ⟨rfl, hb5⟩
                  have hB5 := hB4.trans (hb5.mono hB4.size)
                  go_wp2_with fail
                  refine (works_any _).mono ?_
                  rintro e w6 ⟨rfl, hb6⟩
                  go_wp2
                  go_ret
                  exact ⟨rfl, hB5.trans (hb6.mono hB5.size)⟩
    · go_enter Try.func10, Try.ntmps10
      go_wp2
      go_ret
      exact ⟨rfl, Below.refl _ _⟩
  · go_enter Try.func10, Try.ntmps10
    go_wp2
    go_ret
    exact ⟨rfl, Below.refl _ _⟩
end Go.Proofs.Ytadhfaefcdihgaa
