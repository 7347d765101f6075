/- The contracts of the marks of texts: count, GetText, PutText, the program's and the reference's. -/
import Derived.Test.YtadhfaefcdihgaaC1d
namespace Go.Proofs.Ytadhfaefcdihgaa
open Go.RowKit

set_option maxRecDepth 100000 in
set_option maxHeartbeats 1000000 in
theorem count_any (s : ByteArray) (hs : s.size ≤ maxLen) (a : Int) (w : World) :
    Calls Try.prog 26 #[.string s, .int .i64 a] w fun e w' => e = .returned (.tuple #[.int .i64 (gotN (getC s.data.toList a)), .int .i64 (gotX (getC s.data.toList a) : Nat), .bool (getC s.data.toList a).isSome]) ∧ w = w' := by
  have hsz := bytes_len s
  have Hs := Lib.hid hs
  unfold maxLen at hs
  cases hg : getI s.data.toList a with
  | none =>
    have HC := Lib.hid (getC_none hg)
    have HG := Lib.hid hg
    clear hg hsz
    go_enter Try.func26, Try.ntmps26
    go_wp2_with fail
    refine (get_no Hs.out HG.out _).mono ?_
    rintro e w' ⟨rfl, rfl⟩
    go_wp2
    go_ret3
    exact ⟨ret_none HC.out, rfl⟩
  | some x =>
    obtain ⟨n, m⟩ := x
    obtain ⟨h1, h2, h3, h4, h5, h6, _⟩ := getI_bounds hg
    rw [hsz] at h4
    by_cases hn : 0 ≤ n ∧ n ≤ (s.size : Int) - (m : Int)
    · have HC := Lib.hid (getC_yes hg (by rw [hsz]; exact hn))
      have HG := Lib.hid hg
      obtain ⟨hn0, hn1⟩ := hn
      clear hg hsz h5 h6
      go_enter Try.func26, Try.ntmps26
      go_wp2_with fail
      refine (get_yes Hs.out HG.out _).mono ?_
      rintro e w' ⟨rfl, rfl⟩
      go_wp2
      go_ret3
      exact ⟨ret_some HC.out rfl rfl, rfl⟩
    · have HC := Lib.hid (getC_no hg (by rw [hsz]; exact hn))
      have HG := Lib.hid hg
      clear hg hsz h5 h6
      by_cases hn0 : n < 0
      · clear hn
        go_enter Try.func26, Try.ntmps26
        go_wp2_with fail
        refine (get_yes Hs.out HG.out _).mono ?_
        rintro e w' ⟨rfl, rfl⟩
        go_wp2
        go_ret3
        exact ⟨ret_none HC.out, rfl⟩
      · have hn1 : (s.size : Int) - (m : Int) < n := by omega
        clear hn
        go_enter Try.func26, Try.ntmps26
        go_wp2_with fail
        refine (get_yes Hs.out HG.out _).mono ?_
        rintro e w' ⟨rfl, rfl⟩
        go_wp2
        go_ret3
        exact ⟨ret_none HC.out, rfl⟩

theorem count_yes {s : ByteArray} {a n : Int} {m : Nat} (hs : s.size ≤ maxLen) (h : getC s.data.toList a = some (n, m)) (w : World) :
    Calls Try.prog 26 #[.string s, .int .i64 a] w fun e w' => e = .returned (.tuple #[.int .i64 n, .int .i64 (m : Int), .bool true]) ∧ w = w' := by
  have := count_any s hs a w
  rw [h] at this; exact this
theorem count_no {s : ByteArray} {a : Int} (hs : s.size ≤ maxLen) (h : getC s.data.toList a = none) (w : World) :
    Calls Try.prog 26 #[.string s, .int .i64 a] w fun e w' => e = .returned (.tuple #[.int .i64 0, .int .i64 0, .bool false]) ∧ w = w' := by
  have := count_any s hs a w
  rw [h] at this; exact this
theorem getC_cases (l : List UInt8) (a : Int) : (∃ n m : Nat, getC l a = some ((n : Int), m) ∧ m + n ≤ l.length ∧ getI l a = some ((n : Int), m)) ∨ getC l a = none := by
  cases hg : getC l a with
  | none => exact .inr rfl
  | some x =>
    obtain ⟨n, m⟩ := x
    obtain ⟨h0, h1, h2⟩ := getC_some hg
    obtain ⟨k, rfl⟩ := Int.eq_ofNat_of_zero_le h1
    exact .inl ⟨k, m, rfl, by omega, h0⟩

/-- The text whose mark stands at a place, and the place behind it. -/
def getT (l : List UInt8) (a : Int) : Option (List UInt8 × Nat) := (getC l a).map fun x => ((l.drop x.2).take x.1.toNat, x.2 + x.1.toNat)
def gotT (o : Option (List UInt8 × Nat)) : List UInt8 := (o.map (·.1)).getD []
def gotTX (o : Option (List UInt8 × Nat)) : Nat := (o.map (·.2)).getD 0
theorem getT_yes {l : List UInt8} {a : Int} {n m : Nat} (h : getC l a = some ((n : Int), m)) : getT l a = some ((l.drop m).take n, m + n) := by
  unfold getT; rw [h]; rfl
theorem getT_no {l : List UInt8} {a : Int} (h : getC l a = none) : getT l a = none := by
  unfold getT; rw [h]; rfl

theorem bytes_inj {a b : ByteArray} (h : a.data.toList = b.data.toList) : a = b := ByteArray.ext (Array.toList_inj.1 h)
theorem extract_str (s : ByteArray) (a n : Nat) : s.extract a (a + n) = str ((s.data.toList.drop a).take n) := by
  refine bytes_inj ?_
  rw [extract_list, Nat.add_sub_cancel_left]; rfl

theorem ret_text_yes {s : ByteArray} {n m : Nat} {x : ByteArray} {y : Int} {t : Option (List UInt8 × Nat)} (ht : t = some ((s.data.toList.drop m).take n, m + n)) (hx : x = s.extract m (m + n)) (hy : y = (m : Int) + (n : Int)) :
    Ending.returned (.tuple #[.string x, .int .i64 y, .bool true]) = .returned (.tuple #[.string (str (gotT t)), .int .i64 (gotTX t : Nat), .bool t.isSome]) := by
  subst ht; subst hx; subst hy
  rw [extract_str]; rfl
theorem ret_text_no {x : ByteArray} {t : Option (List UInt8 × Nat)} (ht : t = none) (hx : x.data.toList = []) :
    Ending.returned (.tuple #[.string x, .int .i64 0, .bool false]) = .returned (.tuple #[.string (str (gotT t)), .int .i64 (gotTX t : Nat), .bool t.isSome]) := by
  subst ht
  have : x = str [] := bytes_inj hx
  subst this; rfl

set_option maxRecDepth 100000 in
set_option maxHeartbeats 1000000 in
theorem getText_any (s : ByteArray) (hs : s.size ≤ maxLen) (a : Int) (w : World) :
    Calls Try.prog 16 #[.string s, .int .i64 a] w fun e w' => e = .returned (.tuple #[.string (str (gotT (getT s.data.toList a))), .int .i64 (gotTX (getT s.data.toList a) : Nat), .bool (getT s.data.toList a).isSome]) ∧ w = w' := by
  have hsz := bytes_len s
  have Hs := Lib.hid hs
  unfold maxLen at hs
  rcases getC_cases s.data.toList a with ⟨n, m, hg, hmn, _⟩ | hg
  · have HC := Lib.hid (count_yes Hs.out hg)
    have HT := Lib.hid (getT_yes hg)
    rw [hsz] at hmn
    clear hg hsz
    have hsl := fun w' => slice_str (P := Try.prog) 9 Try.underlying9 s m (m + n) (by omega) (by omega) (m : Int) ((m : Int) + (n : Int)) rfl (by omega) w'
    go_enter Try.func16, Try.ntmps16
    go_wp2_with fail
    refine (HC.out _).mono ?_
    rintro e w' ⟨rfl, rfl⟩
    go_wp2
    go_ret3
    exact ⟨ret_text_yes HT.out rfl rfl, rfl⟩
  · have HC := Lib.hid (count_no Hs.out hg)
    have HT := Lib.hid (getT_no hg)
    clear hg hsz
    have hsl := fun w' => slice_str (P := Try.prog) 9 Try.underlying9 s 0 0 (by omega) (by omega) 0 0 rfl rfl w'
    go_enter Try.func16, Try.ntmps16
    go_wp2_with fail
    refine (HC.out _).mono ?_
    rintro e w' ⟨rfl, rfl⟩
    go_wp2
    go_ret3
    exact ⟨ret_text_no HT.out rfl, rfl⟩

set_option maxRecDepth 100000 in
set_option maxHeartbeats 1000000 in
theorem refGetText_any (s : ByteArray) (hs : s.size ≤ maxLen) (a : Int) (w : World) :
    Calls Try.prog 17 #[.string s, .int .i64 a] w fun e w' => e = .returned (.tuple #[.string (str (gotT (getT s.data.toList a))), .int .i64 (gotTX (getT s.data.toList a) : Nat), .bool (getT s.data.toList a).isSome]) ∧ Below w.heap.size w w' := by
  have hsz := bytes_len s
  have Hs := Lib.hid hs
  unfold maxLen at hs
  cases hg : getI s.data.toList a with
  | none =>
    have HC := Lib.hid (refGet_no Hs.out hg)
    have HT := Lib.hid (getT_no (getC_none hg))
    clear hg hsz
    go_enter Try.func17, Try.ntmps17
    go_wp2_with fail
    refine (HC.out _).mono ?_
    rintro e w' ⟨rfl, hb⟩
    go_wp2
    go_ret3
    exact ⟨ret_text_no HT.out rfl, hb⟩
  | some x =>
    obtain ⟨n, m⟩ := x
    obtain ⟨h1, h2, h3, h4, h5, h6, _⟩ := getI_bounds hg
    rw [hsz] at h4
    have HC := Lib.hid (refGet_yes Hs.out hg)
    by_cases hn : 0 ≤ n ∧ n ≤ (s.size : Int) - (m : Int)
    · obtain ⟨k, rfl⟩ := Int.eq_ofNat_of_zero_le hn.1
      have hg2 := getC_yes hg (by rw [hsz]; exact hn)
      have HT := Lib.hid (getT_yes hg2)
      have hmn : m + k ≤ s.size := by omega
      clear hg hg2 hsz h5 h6 hn
      have hsl := fun w' => slice_str (P := Try.prog) 9 Try.underlying9 s m (m + k) (by omega) (by omega) (m : Int) ((m : Int) + (k : Int)) rfl (by omega) w'
      go_enter Try.func17, Try.ntmps17
      go_wp2_with fail
      refine (HC.out _).mono ?_
      rintro e w' ⟨rfl, hb⟩
      go_wp2
      go_ret3
      exact ⟨ret_text_yes HT.out rfl rfl, hb⟩
    · have HT := Lib.hid (getT_no (getC_no hg (by rw [hsz]; exact hn)))
      clear hg hsz h5 h6
      by_cases hn0 : n < 0
      · clear hn
        go_enter Try.func17, Try.ntmps17
        go_wp2_with fail
        refine (HC.out _).mono ?_
        rintro e w' ⟨rfl, hb⟩
        go_wp2
        go_ret3
        exact ⟨ret_text_no HT.out rfl, hb⟩
      · have hn1 : (s.size : Int) - (m : Int) < n := by omega
        clear hn
        go_enter Try.func17, Try.ntmps17
        go_wp2_with fail
        refine (HC.out _).mono ?_
        rintro e w' ⟨rfl, hb⟩
        go_wp2
        go_ret3
        exact ⟨ret_text_no HT.out rfl, hb⟩

/-- The mark of a text. -/
def putT (t : List UInt8) : List UInt8 := Marks.put t.length ++ t
theorem str_append (a b : List UInt8) : str a ++ str b = str (a ++ b) := by
  unfold str; rw [ByteArray.mk_append_mk]
theorem putT_str (t : ByteArray) : str (Marks.put (t.size : Int)) ++ t = str (putT t.data.toList) := by
  unfold putT
  rw [← str_append, bytes_len]; rfl

set_option maxRecDepth 100000 in
set_option maxHeartbeats 1000000 in
theorem putText_any (t : ByteArray) (ht : (str (Marks.put (t.size : Int))).size + t.size ≤ 9223372036854775807) (w : World) :
    Calls Try.prog 18 #[.string t] w fun e w' => e = .returned (.string (str (putT t.data.toList))) ∧ Below w.heap.size w w' := by
  have HP := Lib.hid (put_any (t.size : Int) (by omega) (by omega))
  have HL := Lib.hid (putT_str t)
  go_enter Try.func18, Try.ntmps18
  go_wp2_with fail
  refine (HP.out _).mono ?_
  rintro e w' ⟨rfl, hb⟩
  go_wp2
  rw [HL.out]
  go_ret
  exact ⟨rfl, hb⟩

set_option maxRecDepth 100000 in
set_option maxHeartbeats 1000000 in
theorem refPutText_any (t : ByteArray) (ht : (str (Marks.put (t.size : Int))).size + t.size ≤ 9223372036854775807) (w : World) :
    Calls Try.prog 19 #[.string t] w fun e w' => e = .returned (.string (str (putT t.data.toList))) ∧ Below w.heap.size w w' := by
  have HP := Lib.hid (refPut_any (t.size : Int) (by omega) (by omega))
  have HL := Lib.hid (putT_str t)
  go_enter Try.func19, Try.ntmps19
  go_wp2_with fail
  refine (HP.out _).mono ?_
  rintro e w' ⟨rfl, hb⟩
  go_wp2
  rw [HL.out]
  go_ret
  exact ⟨rfl, hb⟩
end Go.Proofs.Ytadhfaefcdihgaa
