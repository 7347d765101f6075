/- The contracts of GetAll, the program's and the reference's, and of SameInts. -/
import Derived.Test.YtadhfaefcdihgaaC1g
import Derived.BigQuiet
import Derived.WalkSmall
namespace Go.Proofs.Ytadhfaefcdihgaa
open Go.RowKit

/-- n ints, one behind the other, from a place on. -/
def getK (l : List UInt8) : Nat → Nat → Option (List Int × Nat)
  | 0, p => some ([], p)
  | n + 1, p => (getI l p).bind fun x => (getK l n x.2).map fun y => (x.1 :: y.1, y.2)
def getA (l : List UInt8) (a : Int) : Option (List Int × Nat) := (getC l a).bind fun x => getK l x.1.toNat x.2
def gotL (o : Option (List Int × Nat)) : List Int := (o.map (·.1)).getD []
def gotLX (o : Option (List Int × Nat)) : Nat := (o.map (·.2)).getD 0

/-- Where the loop stands: xs have come, the next one's place is p. -/
def Listing (l : List UInt8) (n m i p : Nat) (xs : List Int) : Prop := i ≤ n ∧ xs.length = i ∧ getK l n m = (getK l (n - i) p).map fun y => (xs ++ y.1, y.2)
theorem listing_start (l : List UInt8) (n m : Nat) : Listing l n m 0 m [] := by
  refine ⟨Nat.zero_le _, rfl, ?_⟩
  show _ = (getK l n m).map _
  cases getK l n m with
  | none => rfl
  | some x => simp
theorem listing_more {l : List UInt8} {n m i p q : Nat} {x : Int} {xs : List Int} (h : Listing l n m i p xs) (hi : i < n) (hx : getI l p = some (x, q)) : Listing l n m (i + 1) q (xs ++ [x]) := by
  obtain ⟨_, h2, h3⟩ := h
  refine ⟨by omega, by simp [h2], ?_⟩
  obtain ⟨k, hk⟩ : ∃ k, n - i = k + 1 := ⟨n - i - 1, by omega⟩
  have hk2 : n - (i + 1) = k := by omega
  rw [h3, hk, hk2, getK, hx]
  simp only [Option.bind_some, Option.map_map]
  cases getK l k q with
  | none => rfl
  | some y => simp
theorem listing_none {l : List UInt8} {n m i p : Nat} {xs : List Int} (h : Listing l n m i p xs) (hi : i < n) (hx : getI l p = none) : getK l n m = none := by
  obtain ⟨k, hk⟩ : ∃ k, n - i = k + 1 := ⟨n - i - 1, by omega⟩
  rw [h.2.2, hk, getK, hx]; rfl
theorem listing_end {l : List UInt8} {n m p : Nat} {xs : List Int} (h : Listing l n m n p xs) : getK l n m = some (xs, p) := by
  rw [h.2.2, Nat.sub_self]; simp [getK]
theorem getA_yes {l : List UInt8} {a : Int} {n m : Nat} {o : Option (List Int × Nat)} (h : getC l a = some ((n : Int), m)) (ho : getK l n m = o) : getA l a = o := by
  unfold getA; rw [h, ← ho]; rfl
theorem getA_no {l : List UInt8} {a : Int} (h : getC l a = none) : getA l a = none := by
  unfold getA; rw [h]; rfl

theorem ret_list {o : Option (List Int × Nat)} {v x : Value} {xs : List Int} {p : Nat} (h : o = some (xs, p)) (hx : x = .int .i64 (p : Int)) :
    Ending.returned (.tuple #[v, x, .bool true]) = .returned (.tuple #[v, .int .i64 (gotLX o : Nat), .bool o.isSome]) := by
  subst h; subst hx; rfl
theorem ret_nolist {o : Option (List Int × Nat)} (h : o = none) :
    Ending.returned (.tuple #[.slice none 0 0, .int .i64 0, .bool false]) = .returned (.tuple #[.slice none 0 0, .int .i64 (gotLX o : Nat), .bool o.isSome]) := by
  subst h; rfl

theorem info_int : (Try.prog.info? 3).map (fun i => (i.zero, i.size, i.bytes)) = some (some (.int .i64 0), 1, 8) := by kernel_rfl

theorem owns_below {w w' : World} {B : Nat} {e : TypeId} {size : Nat} {v : Value} {n : Nat} {xs : List Value} (h : w.ownsRow B e size v n xs) (hb : Below w.heap.size w w') : w'.ownsRow B e size v n xs := by
  obtain ⟨h1, h2⟩ := h
  refine ⟨h1, ?_⟩
  rcases h2 with h2 | ⟨g, cap, cur, hv, hg, hh, r⟩
  · exact .inl h2
  · exact .inr ⟨g, cap, cur, hv, hg, by rw [hb.block g (Array.getElem?_eq_some_iff.1 hh).1]; exact hh, r⟩
theorem owns_nil (w : World) (B : Nat) (e : TypeId) : w.ownsRow B e 1 (.slice none 0 0) 0 [] := ⟨rfl, .inl ⟨rfl, rfl⟩⟩
theorem owns_ints {w : World} {B : Nat} {v : Value} {xs : List Int} {x : Int} (h : w.ownsRow B 3 1 v (xs.length + 1) (xs.map (Value.int .i64) ++ [.int .i64 x])) : w.ownsRow B 3 1 v (xs ++ [x]).length ((xs ++ [x]).map (Value.int .i64)) := by
  simpa using h

/-- What GetAll hands back. -/
def GotAll (w : World) (o : Option (List Int × Nat)) (e : Ending) (w' : World) : Prop :=
  ∃ v, e = .returned (.tuple #[v, .int .i64 (gotLX o : Nat), .bool o.isSome]) ∧ w'.ownsRow w.heap.size 3 1 v (gotL o).length ((gotL o).map (Value.int .i64)) ∧ Below w.heap.size w w'

set_option maxRecDepth 100000 in
set_option maxHeartbeats 2000000 in
theorem getAll_any (s : ByteArray) (hs : s.size ≤ 1000000) (a : Int) (w : World) :
    Calls Try.prog 23 #[.string s, .int .i64 a] w (GotAll w (getA s.data.toList a)) := by
  obtain ⟨i0, hi, hz0, hz1, hz2⟩ := info_parts info_int
  have hsz := bytes_len s
  have Hs := Lib.hid (show s.size ≤ maxLen by unfold maxLen; omega)
  rcases getC_cases s.data.toList a with ⟨n, m, hg, hmn, _⟩ | hg
  · have HC := Lib.hid (count_yes Hs.out hg)
    have HA := Lib.hid (fun o => getA_yes (o := o) hg)
    rw [hsz] at hmn
    clear hg hsz
    go_enter Try.func23, Try.ntmps23
    go_wp2_with fail
    refine (HC.out _).mono ?_
    rintro e w' ⟨rfl, rfl⟩
    go_wp2
    go_loopw [4, 5, 6, 17] (fun v q b p wr => ∃ (i k : Nat) (xs : List Int), p = .int .i64 i ∧ q = .int .i64 k ∧ b = .bool true ∧ Listing s.data.toList n m i k xs ∧ wr.ownsRow w.heap.size 3 1 v xs.length (xs.map (Value.int .i64)) ∧ Below w.heap.size w wr) (fun _ _ _ p _ => n - (intOf p).toNat)
    case atStart => exact ⟨0, m, [], rfl, rfl, rfl, listing_start _ _ _, owns_nil _ _ _, Below.refl _ _⟩
    case round =>
      obtain ⟨i, k, xs, rfl, rfl, rfl, hL, hown, hB⟩ := hrel
      have hin := hL.1
      have hxl := hL.2.1
      have hBs := hB.size
      by_cases hlt : i < n
      · cases hx : getI s.data.toList k with
        | none =>
          have HG := Lib.hid (get_no Hs.out hx)
          have HN := Lib.hid (HA.out none (listing_none hL hlt hx))
          clear hx hL hxl
          go_wp2_with fail
          refine (HG.out _).mono ?_
          rintro e w' ⟨rfl, rfl⟩
          go_wp2
          go_ret3
          exact ⟨_, ret_nolist HN.out, by rw [HN.out]; exact owns_nil _ _ _, hB⟩
        | some y =>
          obtain ⟨x, q⟩ := y
          have HG := Lib.hid (get_yes Hs.out hx)
          have HN := Lib.hid (listing_more hL hlt hx)
          have hxb : xs.length ≤ 1000000 := by omega
          clear hx hL hxl
          go_wp2_with fail
          refine (HG.out _).mono ?_
          rintro e w' ⟨rfl, rfl⟩
          go_wp2_with (at_builtin; refine wpList_append_own _ rfl _ _ 34 rfl w.heap.size 3 i0 (.int .i64 0) 1 8 Try.underlying34 hi hz0 hz1 hz2 rfl (by decide) _ _ _ rfl (hown.alloc _) ⟨wr.heap.size, 0, none⟩ 1 1 [.int .i64 x] rfl rfl (new_at _ _ _) (one_int _ _) (by unfold maxLen; omega) (by omega) (by simp; omega) ?_)
          intro v' w1 hown' hgr _
          have hP := Lib.hid (owns_ints hown')
          have hB1 := Lib.hid (grew hB hown hgr)
          clear hown' hgr hown hB
          go_wp2
          go_roundw
          case rel => exact ⟨i + 1, q, xs ++ [x], by go_num, rfl, rfl, HN.out, hP.out, hB1.out⟩
          case measure => simp [intOf]; omega
      · obtain rfl : i = n := by omega
        have HN := Lib.hid (HA.out _ (listing_end hL))
        clear hL hxl
        go_wp2
        go_ret3
        exact ⟨_, ret_list HN.out rfl, by rw [HN.out]; exact hown, hB⟩
  · have HC := Lib.hid (count_no Hs.out hg)
    have HA := Lib.hid (getA_no hg)
    clear hg hsz
    go_enter Try.func23, Try.ntmps23
    go_wp2_with fail
    refine (HC.out _).mono ?_
    rintro e w' ⟨rfl, rfl⟩
    go_wp2
    refine wp_loop_rounds 1 ?_
    rw [rounds_succ]
    go_wp2
    go_ret3
    exact ⟨_, ret_nolist HA.out, by rw [HA.out]; exact owns_nil _ _ _, Below.refl _ _⟩

set_option maxRecDepth 100000 in
set_option maxHeartbeats 2000000 in
theorem refGetAll_any (s : ByteArray) (hs : s.size ≤ 1000000) (a : Int) (w : World) :
    Calls Try.prog 24 #[.string s, .int .i64 a] w (GotAll w (getA s.data.toList a)) := by
  obtain ⟨i0, hi, hz0, hz1, hz2⟩ := info_parts info_int
  have hsz := bytes_len s
  have Hs := Lib.hid (show s.size ≤ maxLen by unfold maxLen; omega)
  cases hg : getI s.data.toList a with
  | none =>
    have HC := Lib.hid (refGet_no Hs.out hg)
    have HA := Lib.hid (getA_no (getC_none hg))
    clear hg hsz hs
    go_enter Try.func24, Try.ntmps24
    go_wp2_with fail
    refine (HC.out _).mono ?_
    rintro e w' ⟨rfl, hb⟩
    go_wp2
    go_ret3
    exact ⟨_, ret_nolist HA.out, by rw [HA.out]; exact owns_nil _ _ _, hb⟩
  | some x =>
    obtain ⟨n, m⟩ := x
    obtain ⟨h1, h2, h3, h4, h5, h6, _⟩ := getI_bounds hg
    rw [hsz] at h4
    have HC := Lib.hid (refGet_yes Hs.out hg)
    by_cases hn : 0 ≤ n ∧ n ≤ (s.size : Int) - (m : Int)
    · obtain ⟨n, rfl⟩ := Int.eq_ofNat_of_zero_le hn.1
      have hg2 := getC_yes hg (by rw [hsz]; exact hn)
      have HA := Lib.hid (fun o => getA_yes (o := o) hg2)
      have hmn : m + n ≤ s.size := by omega
      clear hg hg2 hsz h5 h6 hn
      go_enter Try.func24, Try.ntmps24
      go_wp2_with fail
      refine (HC.out _).mono ?_
      rintro e w1 ⟨rfl, hb⟩
      go_wp2
      go_loopw [8, 10, 11] (fun q v p wr => ∃ (i k : Nat) (xs : List Int), p = .int .i64 i ∧ q = .int .i64 k ∧ Listing s.data.toList n m i k xs ∧ wr.ownsRow w.heap.size 3 1 v xs.length (xs.map (Value.int .i64)) ∧ Below w.heap.size w wr) (fun _ _ p _ => n - (intOf p).toNat)
      case atStart => exact ⟨0, m, [], rfl, rfl, listing_start _ _ _, owns_nil _ _ _, hb⟩
      case round =>
        obtain ⟨i, k, xs, rfl, rfl, hL, hown, hB⟩ := hrel
        clear hb
        have hin := hL.1
        have hxl := hL.2.1
        by_cases hlt : i < n
        · cases hx : getI s.data.toList k with
          | none =>
            have HG := Lib.hid (refGet_no Hs.out hx)
            have HN := Lib.hid (HA.out none (listing_none hL hlt hx))
            clear hx hL hxl
            go_wp2_with fail
            refine (HG.out _).mono ?_
            rintro e w2 ⟨rfl, hb2⟩
            have hB2 := hB.trans (hb2.mono hB.size)
            clear hB hb2
            go_wp2
            go_ret3
            exact ⟨_, ret_nolist HN.out, by rw [HN.out]; exact owns_nil _ _ _, hB2⟩
          | some y =>
            obtain ⟨x, q⟩ := y
            have HG := Lib.hid (refGet_yes Hs.out hx)
            have HN := Lib.hid (listing_more hL hlt hx)
            have hxb : xs.length ≤ 1000000 := by omega
            clear hx hL hxl
            go_wp2_with fail
            refine (HG.out _).mono ?_
            rintro e w2 ⟨rfl, hb2⟩
            have hown2 := owns_below hown hb2
            have hB2 := hB.trans (hb2.mono hB.size)
            have hBs := hB2.size
            clear hown hB hb2
            go_wp2_with (at_builtin; refine wpList_append_own _ rfl _ _ 34 rfl w.heap.size 3 i0 (.int .i64 0) 1 8 Try.underlying34 hi hz0 hz1 hz2 rfl (by decide) _ _ _ rfl (hown2.alloc _) ⟨w2.heap.size, 0, none⟩ 1 1 [.int .i64 x] rfl rfl (new_at _ _ _) (one_int _ _) (by unfold maxLen; omega) (by omega) (by simp; omega) ?_)
            intro v' w3 hown' hgr _
            have hP := Lib.hid (owns_ints hown')
            have hB3 := Lib.hid (grew hB2 hown2 hgr)
            clear hown' hgr hown2 hB2
            go_wp2
            go_roundw
            case rel => exact ⟨i + 1, q, xs ++ [x], by go_num, rfl, HN.out, hP.out, hB3.out⟩
            case measure => simp [intOf]; omega
        · obtain rfl : i = n := by omega
          have HN := Lib.hid (HA.out _ (listing_end hL))
          clear hL hxl
          go_wp2
          go_ret3
          exact ⟨_, ret_list HN.out rfl, by rw [HN.out]; exact hown, hB⟩
    · have HA := Lib.hid (getA_no (getC_no hg (by rw [hsz]; exact hn)))
      clear hg hsz h5 h6
      by_cases hn0 : n < 0
      · clear hn
        go_enter Try.func24, Try.ntmps24
        go_wp2_with fail
        refine (HC.out _).mono ?_
        rintro e w' ⟨rfl, hb⟩
        go_wp2
        go_ret3
        exact ⟨_, ret_nolist HA.out, by rw [HA.out]; exact owns_nil _ _ _, hb⟩
      · have hn1 : (s.size : Int) - (m : Int) < n := by omega
        clear hn
        go_enter Try.func24, Try.ntmps24
        go_wp2_with fail
        refine (HC.out _).mono ?_
        rintro e w' ⟨rfl, hb⟩
        go_wp2
        go_ret3
        exact ⟨_, ret_nolist HA.out, by rw [HA.out]; exact owns_nil _ _ _, hb⟩

/-- Are two lists the same? -/
theorem same_step {l m : List Int} {k : Nat} (h1 : k < l.length) (h2 : k < m.length) (h : l.take k = m.take k) (hk : l[k] = m[k]) : l.take (k + 1) = m.take (k + 1) := by
  rw [List.take_succ_eq_append_getElem h1, List.take_succ_eq_append_getElem h2, h, hk]

set_option maxRecDepth 100000 in
set_option maxHeartbeats 2000000 in
theorem sameInts_any (l m : List Int) (hl : l.length ≤ 1000000) (u v : Value) (w : World) (hu : IntsAt .i64 w u l) (hv : IntsAt .i64 w v m) :
    Calls Try.prog 22 #[u, v] w fun e w' => e = .returned (.bool (l == m)) ∧ Below w.heap.size w w' := by
  obtain ⟨a, ca, rfl, hca⟩ := hu
  obtain ⟨b, cb, rfl, hcb⟩ := hv
  by_cases hlen : l.length = m.length
  · by_cases hne : l = []
    · subst hne
      obtain rfl : m = [] := List.eq_nil_of_length_eq_zero hlen.symm
      clear hca hcb hl hlen
      go_enter Try.func22, Try.ntmps22
      go_wp2
      refine wp_loop_rounds 1 ?_
      rw [rounds_succ]
      go_wp2
      go_ret
      exact ⟨rfl, Below.refl _ _⟩
    · have hne2 : m ≠ [] := fun e => hne (List.eq_nil_of_length_eq_zero (by rw [hlen, e]; rfl))
      obtain ⟨b1, o1, rfl, hb1, hc1⟩ := hca hne
      obtain ⟨b2, o2, rfl, hb2, hc2⟩ := hcb hne2
      have HC1 := Lib.hid hc1
      have HC2 := Lib.hid hc2
      have HE := Lib.hid hlen
      have g1 : ((l.length : Int) != (m.length : Int)) = false := by rw [hlen]; simp
      clear hca hcb hne hne2 hc1 hc2 hlen
      go_enter Try.func22, Try.ntmps22
      go_wp2
      go_loopw [5] (fun p wr => ∃ k : Nat, k ≤ l.length ∧ p = .int .i64 k ∧ l.take k = m.take k ∧ Below w.heap.size w wr) (fun p _ => l.length - (intOf p).toNat)
      case atStart => exact ⟨0, Nat.zero_le _, rfl, rfl, Below.refl _ _⟩
      case round =>
        obtain ⟨k, hk, rfl, hS, hB⟩ := hrel
        have HS := Lib.hid hS
        clear hS
        by_cases hlt : k < l.length
        · have hlt2 : k < m.length := by rw [← HE.out]; exact hlt
          have hx := (hB.cell (p := ⟨b1, o1 + k, none⟩) hb1).trans (HC1.out k hlt)
          have hy := (hB.cell (p := ⟨b2, o2 + k, none⟩) hb2).trans (HC2.out k hlt2)
          by_cases he : l[k] = m[k]
          · have HS2 := Lib.hid (same_step hlt hlt2 HS.out he)
            rw [he] at hx
            clear he
            generalize m[k] = x at *
            go_wp2
            go_quiet (fail)
            go_wp2
            go_roundw
            case rel => exact ⟨k + 1, by omega, by go_num, HS2.out, below_drewN hB _⟩
            case measure => simp [intOf]; omega
          · have hF : (l == m) = false := by
              rw [beq_eq_false_iff_ne]
              intro e; subst e; exact he rfl
            have HF := Lib.hid hF
            have g2 : (l[k] != m[k]) = true := by rw [bne_iff_ne]; exact he
            clear he hF
            generalize l[k] = x at *
            generalize m[k] = y at *
            go_wp2
            go_quiet (fail)
            go_wp2
            go_ret
            exact ⟨by rw [HF.out]; rfl, below_drewN hB _⟩
        · obtain rfl : k = l.length := by omega
          have hT : (l == m) = true := by
            have := HS.out
            rw [List.take_length, HE.out, List.take_length] at this
            rw [beq_iff_eq]; exact this
          have HT := Lib.hid hT
          clear hT
          go_wp2
          go_ret
          exact ⟨by rw [HT.out]; rfl, hB⟩
  · have hF : (l == m) = false := by
      rw [beq_eq_false_iff_ne]
      intro e; subst e; exact hlen rfl
    have HF := Lib.hid hF
    have g1 : ((l.length : Int) != (m.length : Int)) = true := by rw [bne_iff_ne]; omega
    clear hca hcb hlen hF
    go_enter Try.func22, Try.ntmps22
    go_wp2
    go_ret
    exact ⟨by rw [HF.out]; rfl, Below.refl _ _⟩
end Go.Proofs.Ytadhfaefcdihgaa
