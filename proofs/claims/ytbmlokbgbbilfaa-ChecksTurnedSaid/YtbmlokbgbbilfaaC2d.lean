/- The walks of the statements of layer 2 that make no slice: each returns true, and what was there stays. -/
import Derived.Test.YtbmlokbgbbilfaaC2c
namespace Go.Proofs.Ytbmlokbgbbilfaa
open Go.RowKit

theorem u32_lo {a : Int} (h : (Lit.int .u32 a).wf = true) : 0 ≤ a := by
  simp [Lit.wf, IntKind.min, IntKind.max, IntKind.signed, IntKind.bits] at h; omega
theorem u32_hi {a : Int} (h : (Lit.int .u32 a).wf = true) : Hid (a < 4294967296) := by
  simp [Lit.wf, IntKind.min, IntKind.max, IntKind.signed, IntKind.bits] at h
  exact Lib.hid (by omega)
theorem J_hid (r : Crc.Reg) : Hid (J r < 4294967296) := Lib.hid (J_hi r)
theorem small_len {n m : Nat} (h : n ≤ m) (hm : m ≤ 1000000) : n ≤ maxLen := by unfold maxLen; omega

set_option maxRecDepth 100000 in
set_option maxHeartbeats 1000000 in
theorem checksOf_walk (s : ByteArray) (a : Int) (hs : s.size ≤ maxLen) (ha : (Lit.int .u32 a).wf = true) (w : World) :
    Calls Try.prog 3 #[.string s, .int .u32 a] w fun e w' => e = .returned (.bool true) ∧ Below w.heap.size w w' := by
  have h0 := u32_lo ha
  have h1 := u32_hi ha
  clear ha
  by_cases hlen : s.size ≤ 20000
  · have Hs := Lib.hid hs
    clear hs
    go_enter Try.func3, Try.ntmps3
    go_wp2_with fail
    refine (sum_any s Hs.out _).mono ?_
    rintro e w' ⟨rfl, rfl⟩
    go_wp2_with fail
    refine (refSum_any s Hs.out _).mono ?_
    rintro e w' ⟨rfl, rfl⟩
    go_wp2_with fail
    refine (more_any a h0 h1 s Hs.out _).mono ?_
    rintro e w' ⟨rfl, rfl⟩
    go_wp2_with fail
    refine (refMore_any a h0 h1 s Hs.out _).mono ?_
    rintro e w' ⟨rfl, rfl⟩
    go_wp2_with fail
    refine (works_any _).mono ?_
    rintro e w' ⟨rfl, hb⟩
    go_wp2
    go_ret
    exact ⟨rfl, hb⟩
  · go_enter Try.func3, Try.ntmps3
    go_wp2
    go_ret
    exact ⟨rfl, Below.refl _ _⟩

set_option maxRecDepth 100000 in
set_option maxHeartbeats 1000000 in
theorem checksLess_walk (s : ByteArray) (a : Int) (hs : s.size ≤ maxLen) (ha : (Lit.int .u32 a).wf = true) (w : World) :
    Calls Try.prog 4 #[.string s, .int .u32 a] w fun e w' => e = .returned (.bool true) ∧ Below w.heap.size w w' := by
  have h0 := u32_lo ha
  have h1 := u32_hi ha
  clear ha
  by_cases hlen : s.size ≤ 20000
  · have Hs := Lib.hid hs
    clear hs
    have E := Lib.hid (show J (Crc.more (R (J (Crc.less (R a) s.data.toList))) s.data.toList) = a by rw [R_J, Crc.more_less, J_R a h0 h1.out])
    go_enter Try.func4, Try.ntmps4
    go_wp2_with fail
    refine (less_any a h0 h1 s Hs.out _).mono ?_
    rintro e w1 ⟨rfl, hb1⟩
    go_wp2_with fail
    refine (refLess_any a h0 h1 s Hs.out _).mono ?_
    rintro e w' ⟨rfl, rfl⟩
    go_wp2_with fail
    refine (more_lit _ s a (J_lo _) (J_hid _) Hs.out E.out _).mono ?_
    rintro e w' ⟨rfl, rfl⟩
    go_wp2_with fail
    refine (works_any _).mono ?_
    rintro e w2 ⟨rfl, hb2⟩
    go_wp2
    go_ret
    exact ⟨rfl, hb1.trans (hb2.mono hb1.size)⟩
  · go_enter Try.func4, Try.ntmps4
    go_wp2
    go_ret
    exact ⟨rfl, Below.refl _ _⟩

set_option maxRecDepth 100000 in
set_option maxHeartbeats 1000000 in
theorem checksJoin_walk (a b : ByteArray) (ha : a.size ≤ maxLen) (hb : b.size ≤ maxLen) (w : World) :
    Calls Try.prog 5 #[.string a, .string b] w fun e w' => e = .returned (.bool true) ∧ Below w.heap.size w w' := by
  by_cases hla : a.size ≤ 50000
  · by_cases hlb : b.size ≤ 50000
    · have Ha := Lib.hid ha
      have Hb := Lib.hid hb
      clear ha hb
      have Hab := Lib.hid (show (a ++ b).size ≤ maxLen by rw [ByteArray.size_append]; unfold maxLen; omega)
      obtain ⟨x, hx⟩ : ∃ x, J (Crc.sum a.data.toList) = x := ⟨_, rfl⟩
      obtain ⟨n, hn⟩ : ∃ n, J (Crc.sum (a ++ b).data.toList) = n := ⟨_, rfl⟩
      have el : (a ++ b).data.toList = a.data.toList ++ b.data.toList := by rw [ByteArray.data_append, Array.toList_append]
      have x0 : 0 ≤ x := by rw [← hx]; exact J_lo _
      have x1 := Lib.hid (show x < 4294967296 by rw [← hx]; exact J_hi _)
      have n0 : 0 ≤ n := by rw [← hn]; exact J_lo _
      have n1 := Lib.hid (show n < 4294967296 by rw [← hn]; exact J_hi _)
      have E1 := Lib.hid (show J (Crc.more (R x) b.data.toList) = n by rw [← hx, ← hn, R_J, el, Crc.sum_append])
      have E2 := Lib.hid (show J (Crc.less (R n) b.data.toList) = x by rw [← hx, ← hn, R_J, el, Crc.sum_append, Crc.less_more])
      have E3 := Lib.hid (show J (Crc.less (R x) a.data.toList) = 0 by rw [← hx, R_J]; unfold Crc.sum; rw [Crc.less_more]; exact J_zero)
      have Hx := Lib.hid hx
      have Hn := Lib.hid hn
      clear hx hn el
      go_enter Try.func5, Try.ntmps5
      go_wp2_with fail
      refine (sum_lit _ n Hab.out Hn.out _).mono ?_
      rintro e w' ⟨rfl, rfl⟩
      go_wp2_with fail
      refine (sum_lit _ x Ha.out Hx.out _).mono ?_
      rintro e w' ⟨rfl, rfl⟩
      go_wp2_with fail
      refine (more_lit _ _ n x0 x1 Hb.out E1.out _).mono ?_
      rintro e w' ⟨rfl, rfl⟩
      go_wp2_with fail
      refine (less_lit _ _ x n0 n1 Hb.out E2.out _).mono ?_
      rintro e w1 ⟨rfl, hb1⟩
      go_wp2_with fail
      refine (sum_lit _ x Ha.out Hx.out _).mono ?_
      rintro e w' ⟨rfl, rfl⟩
      go_wp2_with fail
      refine (less_lit _ _ x n0 n1 Hb.out E2.out _).mono ?_
      rintro e w2 ⟨rfl, hb2⟩
      go_wp2_with fail
      refine (less_lit _ _ 0 x0 x1 Ha.out E3.out _).mono ?_
      rintro e w3 ⟨rfl, hb3⟩
      go_wp2_with fail
      refine (works_any _).mono ?_
      rintro e w4 ⟨rfl, hb4⟩
      go_wp2
      go_ret
      have hc2 := hb1.trans (hb2.mono hb1.size)
      have hc3 := hc2.trans (hb3.mono hc2.size)
      exact ⟨rfl, hc3.trans (hb4.mono hc3.size)⟩
    · go_enter Try.func5, Try.ntmps5
      go_wp2
      go_ret
      exact ⟨rfl, Below.refl _ _⟩
  · go_enter Try.func5, Try.ntmps5
    go_wp2
    go_ret
    exact ⟨rfl, Below.refl _ _⟩

theorem R_inj {a b : Int} (a0 : 0 ≤ a) (a1 : Hid (a < 4294967296)) (b0 : 0 ≤ b) (b1 : Hid (b < 4294967296)) (h : R a = R b) : a = b := by
  rw [← J_R a a0 a1.out, h, J_R b b0 b1.out]

set_option maxRecDepth 100000 in
set_option maxHeartbeats 1000000 in
theorem checksApart_walk (m n : Int) (s : ByteArray) (hm : (Lit.int .u32 m).wf = true) (hn : (Lit.int .u32 n).wf = true) (hs : s.size ≤ maxLen) (w : World) :
    Calls Try.prog 6 #[.int .u32 m, .int .u32 n, .string s] w fun e w' => e = .returned (.bool true) ∧ Below w.heap.size w w' := by
  have m0 := u32_lo hm
  have m1 := u32_hi hm
  have n0 := u32_lo hn
  have n1 := u32_hi hn
  clear hm hn
  by_cases hlen : s.size ≤ 20000
  · have Hs := Lib.hid hs
    clear hs
    obtain ⟨p, hp⟩ : ∃ p, J (Crc.more (R m) s.data.toList) = p := ⟨_, rfl⟩
    obtain ⟨q, hq⟩ : ∃ q, J (Crc.more (R n) s.data.toList) = q := ⟨_, rfl⟩
    obtain ⟨p', hp'⟩ : ∃ p, J (Crc.less (R m) s.data.toList) = p := ⟨_, rfl⟩
    obtain ⟨q', hq'⟩ : ∃ q, J (Crc.less (R n) s.data.toList) = q := ⟨_, rfl⟩
    have E1 : (p == q) = (m == n) := by
      rw [Bool.eq_iff_iff, beq_iff_eq, beq_iff_eq, ← hp, ← hq]
      exact ⟨fun h => R_inj m0 m1 n0 n1 (Crc.more_inj (J_inj h)), fun h => by rw [h]⟩
    have E2 : (p' == q') = (m == n) := by
      rw [Bool.eq_iff_iff, beq_iff_eq, beq_iff_eq, ← hp', ← hq']
      exact ⟨fun h => R_inj m0 m1 n0 n1 (Crc.less_inj (J_inj h)), fun h => by rw [h]⟩
    have Hp := Lib.hid hp
    have Hq := Lib.hid hq
    have Hp' := Lib.hid hp'
    have Hq' := Lib.hid hq'
    clear hp hq hp' hq'
    have T : ∃ t, (m == n) = t := ⟨_, rfl⟩
    obtain ⟨t, ht⟩ := T
    rw [ht] at E1 E2
    go_enter Try.func6, Try.ntmps6
    go_wp2_with fail
    refine (more_lit _ _ p m0 m1 Hs.out Hp.out _).mono ?_
    rintro e w' ⟨rfl, rfl⟩
    go_wp2_with fail
    refine (more_lit _ _ q n0 n1 Hs.out Hq.out _).mono ?_
    rintro e w' ⟨rfl, rfl⟩
    go_wp2_with fail
    refine (less_lit _ _ p' m0 m1 Hs.out Hp'.out _).mono ?_
    rintro e w1 ⟨rfl, hb1⟩
    go_wp2_with fail
    refine (less_lit _ _ q' n0 n1 Hs.out Hq'.out _).mono ?_
    rintro e w2 ⟨rfl, hb2⟩
    go_wp2_with fail
    refine (works_any _).mono ?_
    rintro e w3 ⟨rfl, hb3⟩
    go_wp2
    go_ret
    have hc2 := hb1.trans (hb2.mono hb1.size)
    exact ⟨rfl, hc2.trans (hb3.mono hc2.size)⟩
  · go_enter Try.func6, Try.ntmps6
    go_wp2
    go_ret
    exact ⟨rfl, Below.refl _ _⟩

set_option maxRecDepth 100000 in
set_option maxHeartbeats 1000000 in
theorem checksBack_walk (n : Int) (s : ByteArray) (hn : (Lit.int .u32 n).wf = true) (hs : s.size ≤ maxLen) (w : World) :
    Calls Try.prog 7 #[.int .u32 n, .string s] w fun e w' => e = .returned (.bool true) ∧ Below w.heap.size w w' := by
  have n0 := u32_lo hn
  have n1 := u32_hi hn
  clear hn
  by_cases hlen : s.size ≤ 20000
  · have Hs := Lib.hid hs
    clear hs
    obtain ⟨p, hp⟩ : ∃ p, J (Crc.more (R n) s.data.toList) = p := ⟨_, rfl⟩
    obtain ⟨q, hq⟩ : ∃ q, J (Crc.less (R n) s.data.toList) = q := ⟨_, rfl⟩
    have p0 : 0 ≤ p := by rw [← hp]; exact J_lo _
    have p1 := Lib.hid (show p < 4294967296 by rw [← hp]; exact J_hi _)
    have q0 : 0 ≤ q := by rw [← hq]; exact J_lo _
    have q1 := Lib.hid (show q < 4294967296 by rw [← hq]; exact J_hi _)
    have E1 := Lib.hid (show J (Crc.less (R p) s.data.toList) = n by rw [← hp, R_J, Crc.less_more, J_R n n0 n1.out])
    have E2 := Lib.hid (show J (Crc.more (R q) s.data.toList) = n by rw [← hq, R_J, Crc.more_less, J_R n n0 n1.out])
    have E3 := Lib.hid (show J (Crc.more (R n) []) = n by rw [Crc.more_nil, J_R n n0 n1.out])
    have E4 := Lib.hid (show J (Crc.less (R n) []) = n by rw [Crc.less_nil, J_R n n0 n1.out])
    have Hp := Lib.hid hp
    have Hq := Lib.hid hq
    clear hp hq
    go_enter Try.func7, Try.ntmps7
    go_wp2_with fail
    refine (more_lit _ _ p n0 n1 Hs.out Hp.out _).mono ?_
    rintro e w' ⟨rfl, rfl⟩
    go_wp2_with fail
    refine (less_lit _ _ n p0 p1 Hs.out E1.out _).mono ?_
    rintro e w1 ⟨rfl, hb1⟩
    go_wp2_with fail
    refine (less_lit _ _ q n0 n1 Hs.out Hq.out _).mono ?_
    rintro e w2 ⟨rfl, hb2⟩
    go_wp2_with fail
    refine (more_lit _ _ n q0 q1 Hs.out E2.out _).mono ?_
    rintro e w' ⟨rfl, rfl⟩
    go_wp2_with fail
    refine (more_lit _ _ n n0 n1 (by decide +kernel) E3.out _).mono ?_
    rintro e w' ⟨rfl, rfl⟩
    go_wp2_with fail
    refine (less_lit _ _ n n0 n1 (by decide +kernel) E4.out _).mono ?_
    rintro e w3 ⟨rfl, hb3⟩
    go_wp2_with fail
    refine (sum_lit _ 0 (by decide +kernel) (by decide +kernel) _).mono ?_
    rintro e w' ⟨rfl, rfl⟩
    go_wp2_with fail
    refine (works_any _).mono ?_
    rintro e w4 ⟨rfl, hb4⟩
    go_wp2
    go_ret
    have hc2 := hb1.trans (hb2.mono hb1.size)
    have hc3 := hc2.trans (hb3.mono hc2.size)
    exact ⟨rfl, hc3.trans (hb4.mono hc3.size)⟩
  · go_enter Try.func7, Try.ntmps7
    go_wp2
    go_ret
    exact ⟨rfl, Below.refl _ _⟩

theorem toList_append (a b : ByteArray) : (a ++ b).data.toList = a.data.toList ++ b.data.toList := by rw [ByteArray.data_append, Array.toList_append]
theorem bytes_len (s : ByteArray) : s.data.toList.length = s.size := Array.length_toList

set_option maxRecDepth 100000 in
set_option maxHeartbeats 1000000 in
theorem checksSwept_walk (a b c : ByteArray) (ha : a.size ≤ maxLen) (hb : b.size ≤ maxLen) (hc : c.size ≤ maxLen) (w : World) :
    Calls Try.prog 9 #[.string a, .string b, .string c] w fun e w' => e = .returned (.bool true) ∧ Below w.heap.size w w' := by
  by_cases hlen : a.size = b.size ∧ a.size ≤ 5000 ∧ c.size ≤ 5000
  · obtain ⟨h1, h2, h3⟩ := hlen
    have g1 : ((a.size : Int) != (b.size : Int)) = false := by rw [h1]; simp
    have g2 : (a.size : Int) ≤ 5000 := by omega
    have g3 : (c.size : Int) ≤ 5000 := by omega
    have Ha := Lib.hid ha
    have Hb := Lib.hid hb
    have Hc := Lib.hid hc
    have h2b : b.size ≤ 5000 := by omega
    have Sz := Lib.hid (show (c ++ a).size ≤ maxLen ∧ (c ++ b).size ≤ maxLen ∧ (a ++ c).size ≤ maxLen ∧ (b ++ c).size ≤ maxLen by
      simp only [ByteArray.size_append]; unfold maxLen; omega)
    have hl : a.data.toList.length = b.data.toList.length := by rw [bytes_len, bytes_len, h1]
    clear ha hb hc
    obtain ⟨p, hp⟩ : ∃ p, Crc.sum a.data.toList = p := ⟨_, rfl⟩
    obtain ⟨q, hq⟩ : ∃ q, Crc.sum b.data.toList = q := ⟨_, rfl⟩
    obtain ⟨r, hr⟩ : ∃ r, Crc.sum c.data.toList = r := ⟨_, rfl⟩
    obtain ⟨t, ht⟩ : ∃ t, Crc.more r a.data.toList = t := ⟨_, rfl⟩
    obtain ⟨u, hu⟩ : ∃ u, Crc.more r b.data.toList = u := ⟨_, rfl⟩
    obtain ⟨x, hx⟩ : ∃ x, Crc.more p c.data.toList = x := ⟨_, rfl⟩
    obtain ⟨y, hy⟩ : ∃ y, Crc.more q c.data.toList = y := ⟨_, rfl⟩
    have X1 := Lib.hid (show bits .xor .u32 (J t) (J u) = bits .xor .u32 (J p) (J q) by
      rw [xor_J, xor_J, ← ht, ← hu, ← hp, ← hq, Crc.sum_apart _ _ hl])
    obtain ⟨d, hd⟩ : ∃ d, bits .xor .u32 (J p) (J q) = d := ⟨_, rfl⟩
    have X2 : (J x == J y) = (d == 0) := by
      rw [Bool.eq_iff_iff, beq_iff_eq, beq_iff_eq, ← hd, xor_J, ← J_zero]
      constructor
      · intro h
        have e := J_inj h
        rw [← hx, ← hy] at e
        rw [Crc.more_inj e]; simp
      · intro h
        have e := Crc.xor_eq_zero.1 (J_inj h)
        rw [← hx, ← hy, e]
    have Hd := Lib.hid hd
    have Hp := Lib.hid (show J (Crc.sum a.data.toList) = J p by rw [hp])
    have Hq := Lib.hid (show J (Crc.sum b.data.toList) = J q by rw [hq])
    have Hr := Lib.hid (show J (Crc.sum c.data.toList) = J r by rw [hr])
    have Hca := Lib.hid (show J (Crc.sum (c ++ a).data.toList) = J t by rw [toList_append, Crc.sum_append, hr, ht])
    have Hcb := Lib.hid (show J (Crc.sum (c ++ b).data.toList) = J u by rw [toList_append, Crc.sum_append, hr, hu])
    have Hac := Lib.hid (show J (Crc.sum (a ++ c).data.toList) = J x by rw [toList_append, Crc.sum_append, hp, hx])
    have Hbc := Lib.hid (show J (Crc.sum (b ++ c).data.toList) = J y by rw [toList_append, Crc.sum_append, hq, hy])
    have Hra := Lib.hid (show J (Crc.more (R (J r)) a.data.toList) = J t by rw [R_J, ht])
    have Hrb := Lib.hid (show J (Crc.more (R (J r)) b.data.toList) = J u by rw [R_J, hu])
    have r0 := J_lo r
    clear hd hp hq hr ht hu hx hy hl h1
    go_enter Try.func9, Try.ntmps9
    go_wp2_with fail
    refine (sum_lit _ (J p) Ha.out Hp.out _).mono ?_
    rintro e w' ⟨rfl, rfl⟩
    go_wp2_with fail
    refine (sum_lit _ (J q) Hb.out Hq.out _).mono ?_
    rintro e w' ⟨rfl, rfl⟩
    go_wp2_with fail
    rw [Hd.out]
    refine (sum_lit _ (J t) Sz.out.1 Hca.out _).mono ?_
    rintro e w' ⟨rfl, rfl⟩
    go_wp2_with fail
    refine (sum_lit _ (J u) Sz.out.2.1 Hcb.out _).mono ?_
    rintro e w' ⟨rfl, rfl⟩
    have X1' := (X1.out).trans Hd.out
    go_wp2_with fail
    refine (sum_lit _ (J r) Hc.out Hr.out _).mono ?_
    rintro e w' ⟨rfl, rfl⟩
    go_wp2_with fail
    refine (more_lit _ _ (J t) r0 (J_hid r) Ha.out Hra.out _).mono ?_
    rintro e w' ⟨rfl, rfl⟩
    go_wp2_with fail
    refine (sum_lit _ (J r) Hc.out Hr.out _).mono ?_
    rintro e w' ⟨rfl, rfl⟩
    go_wp2_with fail
    refine (more_lit _ _ (J u) r0 (J_hid r) Hb.out Hrb.out _).mono ?_
    rintro e w' ⟨rfl, rfl⟩
    go_wp2_with fail
    refine (sum_lit _ (J x) Sz.out.2.2.1 Hac.out _).mono ?_
    rintro e w' ⟨rfl, rfl⟩
    go_wp2_with fail
    refine (sum_lit _ (J y) Sz.out.2.2.2 Hbc.out _).mono ?_
    rintro e w' ⟨rfl, rfl⟩
    go_wp2_with fail
    refine (works_any _).mono ?_
    rintro e w3 ⟨rfl, hb3⟩
    go_wp2
    go_ret
    exact ⟨rfl, hb3⟩
  · by_cases k1 : a.size = b.size
    · have g1 : ((a.size : Int) != (b.size : Int)) = false := by rw [k1]; simp
      by_cases k2 : a.size ≤ 5000
      · have k3 : ¬ c.size ≤ 5000 := fun k3 => hlen ⟨k1, k2, k3⟩
        clear hlen k1
        go_enter Try.func9, Try.ntmps9
        go_wp2_with fail
        refine (works_any _).mono ?_
        rintro e w3 ⟨rfl, hb3⟩
        go_wp2
        go_ret
        exact ⟨rfl, hb3⟩
      · clear hlen k1
        go_enter Try.func9, Try.ntmps9
        go_wp2_with fail
        refine (works_any _).mono ?_
        rintro e w3 ⟨rfl, hb3⟩
        go_wp2
        go_ret
        exact ⟨rfl, hb3⟩
    · have g1 : ((a.size : Int) != (b.size : Int)) = true := by rw [bne_iff_ne]; omega
      clear hlen k1
      go_enter Try.func9, Try.ntmps9
      go_wp2_with fail
      refine (works_any _).mono ?_
      rintro e w3 ⟨rfl, hb3⟩
      go_wp2
      go_ret
      exact ⟨rfl, hb3⟩
end Go.Proofs.Ytbmlokbgbbilfaa
