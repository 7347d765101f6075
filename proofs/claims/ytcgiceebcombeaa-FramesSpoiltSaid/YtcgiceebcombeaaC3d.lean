/- The contract of frames.Next. -/
import Derived.Test.YtcgiceebcombeaaC3c
namespace Go.Proofs.Ytcgiceebcombeaa
open Go.RowKit

theorem nextL_bad {l : List UInt8} {a n : Int} {q : Nat} (h : getI l a = some (n, q)) (hb : n < 0 ∨ 8192 < n ∨ (l.length : Int) < q + 4 + n) : nextL l a = none := by
  unfold nextL
  rw [h]
  simp only [Option.bind_some]
  rw [if_neg (by omega)]
theorem nextL_is {l : List UInt8} {a : Int} {n q : Nat} (h : getI l a = some ((n : Int), q)) (h1 : n ≤ 8192) (h2 : q + 4 + n ≤ l.length) :
    nextL l a = if chkL ((l.drop a.toNat).take (q - a.toNat) ++ (l.drop (q + 4)).take n) = (l.drop q).take 4 then some ((l.drop (q + 4)).take n, q + 4 + n) else none := by
  unfold nextL
  rw [h]
  simp only [Option.bind_some, Int.toNat_natCast]
  by_cases hc : chkL ((l.drop a.toNat).take (q - a.toNat) ++ (l.drop (q + 4)).take n) = (l.drop q).take 4
  · rw [if_pos ⟨by omega, by omega, h2, hc⟩, if_pos hc]
  · rw [if_neg (fun hh => hc hh.2.2.2), if_neg hc]
theorem extract_str (s : ByteArray) (a b : Nat) : s.extract a b = str ((s.data.toList.drop a).take (b - a)) := by
  rw [← extract_list]; rfl

set_option maxRecDepth 100000 in
set_option maxHeartbeats 4000000 in
theorem next_no {s : ByteArray} (hs : s.size ≤ 1000000) {a : Int} (h : nextL s.data.toList a = none) (w : World) :
    Calls Try.prog 13 #[.string s, .int .i64 a] w fun e w' => e = .returned (.tuple #[.string ⟨#[]⟩, .int .i64 0, .bool false]) ∧ Below w.heap.size w w' := by
  have hm : s.size ≤ maxLen := by unfold maxLen; omega
  cases hg : getI s.data.toList a with
  | none =>
    have HG := Lib.hid (get_no hm hg)
    clear hg h
    go_enter Try.func13, Try.ntmps13
    go_wp2_with fail
    refine (HG.out _).mono ?_
    rintro e w1 ⟨rfl, rfl⟩
    go_wp2
    go_ret3
    exact ⟨rfl, Below.refl _ _⟩
  | some x =>
    obtain ⟨n, q⟩ := x
    have HG := Lib.hid (get_yes hm hg)
    obtain ⟨b1, b2, b3, b4, b5, b6, _⟩ := getI_bounds hg
    rw [bytes_len] at b4
    by_cases hn : n < 0
    · clear hg h
      go_enter Try.func13, Try.ntmps13
      go_wp2_with fail
      refine (HG.out _).mono ?_
      rintro e w1 ⟨rfl, rfl⟩
      go_wp2
      go_ret3
      exact ⟨rfl, Below.refl _ _⟩
    · have d1 : decide (n < 0) = false := decide_eq_false hn
      by_cases hn2 : 8192 < n
      · clear hg h
        go_enter Try.func13, Try.ntmps13
        go_wp2_with fail
        refine (HG.out _).mono ?_
        rintro e w1 ⟨rfl, rfl⟩
        go_wp2
        go_ret3
        exact ⟨rfl, Below.refl _ _⟩
      · have d2 : decide (8192 < n) = false := decide_eq_false hn2
        obtain ⟨k, rfl⟩ : ∃ k : Nat, n = (k : Int) := ⟨n.toNat, by omega⟩
        by_cases hl : s.size < q + 4 + k
        · clear hg h
          go_enter Try.func13, Try.ntmps13
          go_wp2_with fail
          refine (HG.out _).mono ?_
          rintro e w1 ⟨rfl, rfl⟩
          go_wp2
          go_ret3
          exact ⟨rfl, Below.refl _ _⟩
        · have d3 : decide ((s.size : Int) - q < 4 + k) = false := by rw [decide_eq_false_iff_not]; omega
          obtain ⟨c, rfl⟩ : ∃ c : Nat, a = (c : Int) := ⟨a.toNat, by omega⟩
          rw [nextL_is hg (by omega) (by rw [bytes_len]; omega), Int.toNat_natCast] at h
          have hne : ¬ chkL ((s.data.toList.drop c).take (q - c) ++ (s.data.toList.drop (q + 4)).take k) = (s.data.toList.drop q).take 4 := fun hc => by rw [if_pos hc] at h; cases h
          have hsz : (s.extract c q ++ s.extract (q + 4) (q + 4 + k)).size ≤ 1000000 := by
            rw [ByteArray.size_append, ByteArray.size_extract, ByteArray.size_extract]; omega
          have XC := Lib.hid (check_any (s.extract c q ++ s.extract (q + 4) (q + 4 + k)) (by unfold maxLen; omega))
          have hck : (!((str (chkL (s.extract c q ++ s.extract (q + 4) (q + 4 + k)).data.toList)).toList == (s.extract q (q + 4)).toList)) = true := by
            rw [str_eq_iff, Bool.not_eq_true', beq_eq_false_iff_ne]
            intro hc
            apply hne
            rw [extract_list, show q + 4 - q = 4 by omega] at hc
            rw [← hc, ByteArray.data_append, Array.toList_append, extract_list, extract_list, show q + 4 + k - (q + 4) = k by omega]
          generalize chkL (s.extract c q ++ s.extract (q + 4) (q + 4 + k)).data.toList = ck at *
          clear hg h hne
          go_enter Try.func13, Try.ntmps13
          go_wp2_with fail
          refine (HG.out _).mono ?_
          rintro e w1 ⟨rfl, rfl⟩
          go_wp2_with fail
          refine wp_region_quiet_below (by kernel_rfl) (by kernel_rfl) ?_
          repeat (go_big_quiet_step ((go_at_call 20; exact Calls.regrown_of (XC.out _))))
          refine wpQuiet_nil ?_
          intro _ hw'
          obtain ⟨⟨dq, osq⟩, hw''⟩ := hw'
          subst hw''
          have hb4 := below_regrown w dq osq
          generalize Sort.grow (redrawn w dq) osq = wq at *
          go_wp2
          go_ret3
          exact ⟨rfl, hb4⟩

set_option maxRecDepth 100000 in
set_option maxHeartbeats 4000000 in
theorem next_yes {s : ByteArray} (hs : s.size ≤ 1000000) {a : Int} {p : List UInt8} {m : Nat} (h : nextL s.data.toList a = some (p, m)) (w : World) :
    Calls Try.prog 13 #[.string s, .int .i64 a] w fun e w' => e = .returned (.tuple #[.string (str p), .int .i64 (m : Int), .bool true]) ∧ Below w.heap.size w w' := by
  have hm : s.size ≤ maxLen := by unfold maxLen; omega
  cases hg : getI s.data.toList a with
  | none => rw [next_none hg] at h; cases h
  | some x =>
    obtain ⟨n, q⟩ := x
    have HG := Lib.hid (get_yes hm hg)
    obtain ⟨b1, b2, b3, b4, b5, b6, _⟩ := getI_bounds hg
    by_cases hn : n < 0 ∨ 8192 < n ∨ (s.data.toList.length : Int) < q + 4 + n
    · rw [nextL_bad hg hn] at h; cases h
    · obtain ⟨k, rfl⟩ : ∃ k : Nat, n = (k : Int) := ⟨n.toNat, by omega⟩
      obtain ⟨c, rfl⟩ : ∃ c : Nat, a = (c : Int) := ⟨a.toNat, by omega⟩
      rw [bytes_len] at b4 hn
      rw [nextL_is hg (by omega) (by rw [bytes_len]; omega), Int.toNat_natCast] at h
      by_cases hc : chkL ((s.data.toList.drop c).take (q - c) ++ (s.data.toList.drop (q + 4)).take k) = (s.data.toList.drop q).take 4
      · rw [if_pos hc] at h
        simp only [Option.some.injEq, Prod.mk.injEq] at h
        obtain ⟨e1, e2⟩ := h
        have hsz : (s.extract c q ++ s.extract (q + 4) (q + 4 + k)).size ≤ 1000000 := by
          rw [ByteArray.size_append, ByteArray.size_extract, ByteArray.size_extract]; omega
        have XC := Lib.hid (check_any (s.extract c q ++ s.extract (q + 4) (q + 4 + k)) (by unfold maxLen; omega))
        have hck : (!((str (chkL (s.extract c q ++ s.extract (q + 4) (q + 4 + k)).data.toList)).toList == (s.extract q (q + 4)).toList)) = false := by
          rw [str_eq_iff, Bool.not_eq_false', beq_iff_eq, extract_list, show q + 4 - q = 4 by omega, ← hc, ByteArray.data_append, Array.toList_append, extract_list, extract_list, show q + 4 + k - (q + 4) = k by omega]
        have HP := Lib.hid (show s.extract (q + 4) (q + 4 + k) = str p by rw [extract_str, show q + 4 + k - (q + 4) = k by omega, e1])
        have HM := Lib.hid (show (q : Int) + 4 + k = (m : Int) by omega)
        generalize chkL (s.extract c q ++ s.extract (q + 4) (q + 4 + k)).data.toList = ck at *
        clear hg hc e1 e2
        go_enter Try.func13, Try.ntmps13
        go_wp2_with fail
        refine (HG.out _).mono ?_
        rintro e w1 ⟨rfl, rfl⟩
        go_wp2_with fail
        refine wp_region_quiet_below (by kernel_rfl) (by kernel_rfl) ?_
        repeat (go_big_quiet_step ((go_at_call 20; exact Calls.regrown_of (XC.out _))))
        refine wpQuiet_nil ?_
        intro _ hw'
        obtain ⟨⟨dq, osq⟩, hw''⟩ := hw'
        subst hw''
        have hb4 := below_regrown w dq osq
        generalize Sort.grow (redrawn w dq) osq = wq at *
        go_wp2
        rw [HP.out, HM.out]
        go_ret3
        exact ⟨rfl, hb4⟩
      · rw [if_neg hc] at h; cases h
end Go.Proofs.Ytcgiceebcombeaa
