/- The reference of layer 9: Take, Decode. -/
import Derived.Test.YtcooaagacdfbiaaC9d
namespace Go.Proofs.Ytcooaagacdfbiaa
open Go.RowKit

/-- What Take hands back. -/
def tkO (d : Option (Ord × Nat)) : Ord := match d with | some x => x.1 | none => zeroOrd
def tkN (d : Option (Ord × Nat)) : Int := match d with | some x => (x.2 : Int) | none => 0
theorem tk_none {d : Option (Ord × Nat)} (h : d = none) : Ending.returned (.tuple #[.agg #[.int .i64 zeroOrd.id, .int .i64 zeroOrd.stream, .int .i64 zeroOrd.expect, .int .i64 zeroOrd.kind, .int .i64 zeroOrd.arg], .int .i64 0, .bool false]) =
    Ending.returned (.tuple #[.agg #[.int .i64 (tkO d).id, .int .i64 (tkO d).stream, .int .i64 (tkO d).expect, .int .i64 (tkO d).kind, .int .i64 (tkO d).arg], .int .i64 (tkN d), .bool d.isSome]) := by subst h; rfl
theorem tk_some {d : Option (Ord × Nat)} {o : Ord} {m : Nat} (h : d = some (o, m)) : Ending.returned (.tuple #[.agg #[.int .i64 o.id, .int .i64 o.stream, .int .i64 o.expect, .int .i64 o.kind, .int .i64 o.arg], .int .i64 m, .bool true]) =
    Ending.returned (.tuple #[.agg #[.int .i64 (tkO d).id, .int .i64 (tkO d).stream, .int .i64 (tkO d).expect, .int .i64 (tkO d).kind, .int .i64 (tkO d).arg], .int .i64 (tkN d), .bool d.isSome]) := by subst h; rfl

set_option maxRecDepth 100000 in
set_option maxHeartbeats 4000000 in
theorem take_any (s : ByteArray) (hs : s.size ≤ maxLen) (w : World) :
    Calls Try.prog 21 #[.string s, .int .i64 0] w fun e w' =>
      e = .returned (.tuple #[.agg #[.int .i64 (tkO (takeO s.data.toList 0)).id, .int .i64 (tkO (takeO s.data.toList 0)).stream, .int .i64 (tkO (takeO s.data.toList 0)).expect, .int .i64 (tkO (takeO s.data.toList 0)).kind, .int .i64 (tkO (takeO s.data.toList 0)).arg],
        .int .i64 (tkN (takeO s.data.toList 0)), .bool (takeO s.data.toList 0).isSome]) ∧ Below w.heap.size w w' := by
  have Hs := Lib.hid hs
  obtain ⟨w1, hw1⟩ : ∃ w1, (w.alloc (.cells #[.int .i64 0, .int .i64 0, .int .i64 0, .int .i64 0, .int .i64 0] 23)).alloc (.cells #[.int .i64 0, .int .i64 0, .int .i64 0, .int .i64 0, .int .i64 0] 53) = w1 := ⟨_, rfl⟩
  have hb1 : Below w.heap.size w w1 := by rw [← hw1]; exact ((Below.refl _ _).alloc (Nat.le_refl _) _).alloc (by simp) _
  have hs1 : w1.heap.size = w.heap.size + 2 := by rw [← hw1]; simp
  have hr1 : w1.heap[w.heap.size]? = some (.cells (ordCells zeroOrd) 23 (0, 0)) := by
    rw [← hw1, Below.heap_alloc _ _ _ (by simp)]; exact World.alloc_heap_new w _
  have hh1 : w1.heap[w.heap.size + 1]? = some (.cells (ordCells (ordOf [])) 53 (0, 0)) := by
    rw [← hw1]
    have := World.alloc_heap_new (w.alloc (.cells #[.int .i64 0, .int .i64 0, .int .i64 0, .int .i64 0, .int .i64 0] 23)) (.cells #[.int .i64 0, .int .i64 0, .int .i64 0, .int .i64 0, .int .i64 0] 53)
    rw [World.size_alloc] at this
    exact this
  have HW1 := Lib.hid hw1
  have HR1 := Lib.hid hr1
  have HH1 := Lib.hid hh1
  clear hw1 hr1 hh1 hs
  go_enter Try.func21, Try.ntmps21
  go_wp2_with fail
  go_loopw [1, 8] (fun q p wr => ∃ (k m : Nat) (xs : List Int), p = .int .i64 k ∧ q = .int .i64 m ∧ Listing s.data.toList 5 0 k m xs ∧ Below w.heap.size w wr ∧ w.heap.size + 2 ≤ wr.heap.size ∧
      wr.heap[w.heap.size]? = some (.cells (ordCells zeroOrd) 23 (0, 0)) ∧ wr.heap[w.heap.size + 1]? = some (.cells (ordCells (ordOf xs)) 53 (0, 0))) (fun _ p _ => 5 - (intOf p).toNat)
  case atStart => rw [HW1.out]; exact ⟨0, 0, [], rfl, rfl, listing_start _ _ _, hb1, by omega, HR1.out, HH1.out⟩
  case round =>
    obtain ⟨k, m, xs, rfl, rfl, hL, hB, hz, hr, hh⟩ := hrel
    have hk := hL.1
    have hxl := Lib.hid hL.2.1
    by_cases hlt : k < 5
    · cases hg : getI s.data.toList m with
      | none =>
        have HG := Lib.hid (refGet_no Hs.out hg)
        have HD := Lib.hid (show takeO s.data.toList 0 = none by unfold takeO; rw [listing_none hL hlt hg]; rfl)
        have HR := Lib.hid hr
        clear hh hr hg hL
        go_wp2_with fail
        refine (HG.out _).mono ?_
        rintro e w4 ⟨rfl, hb4⟩
        have hB4 := hB.trans (hb4.mono hB.size)
        have hr4 := (hb4.block _ (by omega)).trans HR.out
        obtain ⟨r0, r1, r2, r3, r4⟩ := row_cells (p := zeroOrd) hr4
        go_wp2_with (refine wpList_store_row rfl _ _ _ rfl w.heap.size (ordCells zeroOrd) rfl rfl _ _ hr4 (by kernel_rfl) rfl (ord_one _) ?_)
        (try simp only [Exit.inBlock, Exit.then])
        refine bodyPost_ret (by simp [results, Try.results21, go_sem, r0, r1, r2, r3, r4]) rfl ⟨tk_none HD.out, below_setRow hB4 (Nat.le_refl _) _⟩
      | some y =>
        obtain ⟨x, q⟩ := y
        have HG := Lib.hid (refGet_yes Hs.out hg)
        have HN := Lib.hid (listing_more hL hlt hg)
        have HH := Lib.hid hh
        have HR := Lib.hid hr
        clear hh hr hg hL
        go_wp2_with fail
        refine (HG.out _).mono ?_
        rintro e w4 ⟨rfl, hb4⟩
        have hB4 := hB.trans (hb4.mono hB.size)
        have hs4 := hb4.size
        have hr4 := (hb4.block _ (by omega)).trans HR.out
        have hh4 := (hb4.block _ (by omega)).trans HH.out
        have hx := ord_cell hh4 k hlt
        have hfz : w4.frozen? ⟨w.heap.size + 1, k, none⟩ = false := by simp [World.frozen?, hh4]
        have HR4 := Lib.hid hr4
        have HH4 := Lib.hid hh4
        clear hr4 hh4 hb4
        go_wp2
        go_roundw
        case rel =>
          refine ⟨k + 1, q, xs ++ [x], by go_num, rfl, HN.out, hB4.setCell (by show w.heap.size ≤ w.heap.size + 1; omega) _, by simp; omega, ?_, ?_⟩
          · rw [Below.heap_setCell _ _ _ _ (by show w.heap.size ≠ w.heap.size + 1; omega)]; exact HR4.out
          · have hk2 := hxl.out
            subst hk2
            rw [ord_set_block HH4.out _ hlt, set_snoc xs x hlt]
        case measure => simp [intOf]; omega
    · obtain rfl : k = 5 := by omega
      have HD := Lib.hid (show takeO s.data.toList 0 = some (ordOf xs, m) by unfold takeO; rw [listing_end hL]; rfl)
      have h0 := ord_cell hh 0 (by decide)
      have h1 := ord_cell hh 1 (by decide)
      have h2 := ord_cell hh 2 (by decide)
      have h3 := ord_cell hh 3 (by decide)
      have h4 := ord_cell hh 4 (by decide)
      clear hL hh
      obtain ⟨r0, r1, r2, r3, r4⟩ := row_cells (p := ordOf xs) hr
      go_wp2_with (refine wpList_store_row rfl _ _ _ rfl w.heap.size (ordCells (ordOf xs)) rfl rfl _ _ hr (by kernel_rfl) rfl (ord_one _) ?_)
      (try simp only [Exit.inBlock, Exit.then])
      refine bodyPost_ret (by simp [results, Try.results21, go_sem, r0, r1, r2, r3, r4]) rfl ⟨tk_some HD.out, below_setRow hB (Nat.le_refl _) _⟩

theorem take_no {s : ByteArray} (hs : s.size ≤ maxLen) (h : takeO s.data.toList 0 = none) (w : World) :
    Calls Try.prog 21 #[.string s, .int .i64 0] w fun e w' =>
      e = .returned (.tuple #[.agg #[.int .i64 0, .int .i64 0, .int .i64 0, .int .i64 0, .int .i64 0], .int .i64 0, .bool false]) ∧ Below w.heap.size w w' := by
  have := take_any s hs w
  rw [h] at this; exact this
theorem take_yes {s : ByteArray} {o : Ord} {m : Nat} (hs : s.size ≤ maxLen) (h : takeO s.data.toList 0 = some (o, m)) (w : World) :
    Calls Try.prog 21 #[.string s, .int .i64 0] w fun e w' =>
      e = .returned (.tuple #[.agg #[.int .i64 o.id, .int .i64 o.stream, .int .i64 o.expect, .int .i64 o.kind, .int .i64 o.arg], .int .i64 (m : Int), .bool true]) ∧ Below w.heap.size w w' := by
  have := take_any s hs w
  rw [h] at this; exact this

set_option maxRecDepth 100000 in
set_option maxHeartbeats 4000000 in
theorem refDecode_any (s : ByteArray) (hs : s.size ≤ maxLen) (w : World) :
    Calls Try.prog 15 #[.string s] w fun e w' =>
      e = .returned (.tuple #[.agg #[.int .i64 (gotO (decO s.data.toList)).id, .int .i64 (gotO (decO s.data.toList)).stream, .int .i64 (gotO (decO s.data.toList)).expect, .int .i64 (gotO (decO s.data.toList)).kind, .int .i64 (gotO (decO s.data.toList)).arg], .int .i64 (errno (decO s.data.toList).isSome 30)]) ∧ Below w.heap.size w w' := by
  have Hs := Lib.hid hs
  have hsz := bytes_len s
  obtain ⟨w1, hw1⟩ : ∃ w1, w.alloc (.cells #[.int .i64 0, .int .i64 0, .int .i64 0, .int .i64 0, .int .i64 0] 23) = w1 := ⟨_, rfl⟩
  have hb1 : Below w.heap.size w w1 := by rw [← hw1]; exact (Below.refl _ _).alloc (Nat.le_refl _) _
  have hs1 : w1.heap.size = w.heap.size + 1 := by rw [← hw1]; simp
  have hr1 : w1.heap[w.heap.size]? = some (.cells (ordCells zeroOrd) 23 (0, 0)) := by rw [← hw1]; exact World.alloc_heap_new w _
  have HW1 := Lib.hid hw1
  have HR1 := Lib.hid hr1
  clear hw1 hr1 hs
  have hkey : ∀ (w2 : World) (o : Ord), Below w1.heap.size w1 w2 → ∃ w3, (w2.alloc (.cells #[.int .i64 0, .int .i64 0, .int .i64 0, .int .i64 0, .int .i64 0] 23)).setRow w2.heap.size (ordCells o) = w3 ∧ Below w.heap.size w w3 ∧ w3.heap[w.heap.size]? = some (.cells (ordCells zeroOrd) 23 (0, 0)) ∧ w3.heap[w2.heap.size]? = some (.cells (ordCells o) 23 (0, 0)) ∧ w.heap.size < w2.heap.size ∧ w2.heap.size < w3.heap.size := by
    intro w2 o hb2
    have h2 := hb2.size
    refine ⟨_, rfl, below_setRow ((hb1.trans (hb2.mono hb1.size)).alloc (by omega) _) (by omega) _, ?_, setRow_heap _ _ _ _ _ _ (World.alloc_heap_new w2 _), by omega, by simp⟩
    rw [setRow_other _ _ _ _ (by omega), Below.heap_alloc _ _ _ (by omega)]
    exact (hb2.block _ (by omega)).trans HR1.out
  have HK := Lib.hid hkey
  clear hkey
  cases ht : takeO s.data.toList 0 with
  | none =>
    have HD := Lib.hid (show decO s.data.toList = none by unfold decO; rw [ht]; rfl)
    have HT := Lib.hid (take_no Hs.out ht)
    clear ht
    go_enter Try.func15, Try.ntmps15
    go_wp2_with fail
    rw [HW1.out]
    refine (HT.out _).mono ?_
    rintro e w2 ⟨rfl, hb2⟩
    obtain ⟨w3, hw3, hB3, hr3, hh3, hlt, hlt3⟩ := HK.out w2 zeroOrd hb2
    have HW3 := Lib.hid hw3
    have hn := World.alloc_heap_new w2 (.cells #[.int .i64 0, .int .i64 0, .int .i64 0, .int .i64 0, .int .i64 0] 23)
    obtain ⟨r0, r1, r2, r3, r4⟩ := row_cells (p := zeroOrd) hr3
    clear hw3
    go_wp2_with (first | (refine wpList_store_row rfl _ _ (.tmp 10) rfl w2.heap.size (ordCells zeroOrd) rfl rfl _ _ hn (by kernel_rfl) rfl (ord_one _) ?_; rw [HW3.out]) | refine wpList_store_row rfl _ _ (.tmp 26) rfl w.heap.size (ordCells zeroOrd) rfl rfl _ _ hr3 (by kernel_rfl) rfl (ord_one _) ?_)
    (try simp only [Exit.inBlock, Exit.then])
    refine bodyPost_ret (by simp [results, Try.results15, go_sem, r0, r1, r2, r3, r4]) rfl ⟨got_none HD.out, below_setRow hB3 (Nat.le_refl _) _⟩
  | some y =>
    obtain ⟨o, m⟩ := y
    have HT := Lib.hid (take_yes Hs.out ht)
    by_cases hm : m = s.data.toList.length
    · have d1 : decide ((m : Int) = s.size) = true := decide_eq_true (by omega)
      have d2 : ((m : Int) != s.size) = false := by rw [bne, show ((m : Int) == s.size) = decide ((m : Int) = s.size) from rfl, d1]; rfl
      cases hv : mayB o with
      | true =>
        have HD := Lib.hid (show decO s.data.toList = some o by unfold decO; rw [ht]; simp [hm, hv])
        have HC := Lib.hid (may_yes hv)
        clear ht hm hv
        go_enter Try.func15, Try.ntmps15
        go_wp2_with fail
        rw [HW1.out]
        refine (HT.out _).mono ?_
        rintro e w2 ⟨rfl, hb2⟩
        obtain ⟨w3, hw3, hB3, hr3, hh3, hlt, hlt3⟩ := HK.out w2 o hb2
        have HW3 := Lib.hid hw3
        have hn := World.alloc_heap_new w2 (.cells #[.int .i64 0, .int .i64 0, .int .i64 0, .int .i64 0, .int .i64 0] 23)
        have h0 := ord_cell hh3 0 (by decide)
        have h1 := ord_cell hh3 1 (by decide)
        have h2 := ord_cell hh3 2 (by decide)
        have h3 := ord_cell hh3 3 (by decide)
        have h4 := ord_cell hh3 4 (by decide)
        clear hw3
        go_wp2_with (refine wpList_store_row rfl _ _ (.tmp 10) rfl w2.heap.size (ordCells o) rfl rfl _ _ hn (by kernel_rfl) rfl (ord_one _) ?_; rw [HW3.out])
        refine (HC.out _).mono ?_
        rintro e w4 ⟨rfl, hb4⟩
        have hB4 := hB3.trans (hb4.mono hB3.size)
        have hr4 := (hb4.block _ (by omega)).trans hr3
        have hh4 := (hb4.block _ (by omega)).trans hh3
        have h0 := ord_cell hh4 0 (by decide)
        have h1 := ord_cell hh4 1 (by decide)
        have h2 := ord_cell hh4 2 (by decide)
        have h3 := ord_cell hh4 3 (by decide)
        have h4 := ord_cell hh4 4 (by decide)
        obtain ⟨r0, r1, r2, r3, r4⟩ := row_cells (p := o) hr4
        go_wp2_with (refine wpList_store_row rfl _ _ (.tmp 27) rfl w.heap.size (ordCells o) rfl rfl _ _ hr4 (by kernel_rfl) rfl (ord_one _) ?_)
        (try simp only [Exit.inBlock, Exit.then])
        refine bodyPost_ret (by simp [results, Try.results15, go_sem, r0, r1, r2, r3, r4]) rfl ⟨got_some HD.out, below_setRow hB4 (Nat.le_refl _) _⟩
      | false =>
        have HD := Lib.hid (show decO s.data.toList = none by unfold decO; rw [ht]; simp [hv])
        have HC := Lib.hid (may_no hv)
        clear ht hm hv
        go_enter Try.func15, Try.ntmps15
        go_wp2_with fail
        rw [HW1.out]
        refine (HT.out _).mono ?_
        rintro e w2 ⟨rfl, hb2⟩
        obtain ⟨w3, hw3, hB3, hr3, hh3, hlt, hlt3⟩ := HK.out w2 o hb2
        have HW3 := Lib.hid hw3
        have hn := World.alloc_heap_new w2 (.cells #[.int .i64 0, .int .i64 0, .int .i64 0, .int .i64 0, .int .i64 0] 23)
        have h0 := ord_cell hh3 0 (by decide)
        have h1 := ord_cell hh3 1 (by decide)
        have h2 := ord_cell hh3 2 (by decide)
        have h3 := ord_cell hh3 3 (by decide)
        have h4 := ord_cell hh3 4 (by decide)
        clear hw3
        go_wp2_with (refine wpList_store_row rfl _ _ (.tmp 10) rfl w2.heap.size (ordCells o) rfl rfl _ _ hn (by kernel_rfl) rfl (ord_one _) ?_; rw [HW3.out])
        refine (HC.out _).mono ?_
        rintro e w4 ⟨rfl, hb4⟩
        have hB4 := hB3.trans (hb4.mono hB3.size)
        have hr4 := (hb4.block _ (by omega)).trans hr3
        obtain ⟨r0, r1, r2, r3, r4⟩ := row_cells (p := zeroOrd) hr4
        go_wp2_with (refine wpList_store_row rfl _ _ (.tmp 26) rfl w.heap.size (ordCells zeroOrd) rfl rfl _ _ hr4 (by kernel_rfl) rfl (ord_one _) ?_)
        (try simp only [Exit.inBlock, Exit.then])
        refine bodyPost_ret (by simp [results, Try.results15, go_sem, r0, r1, r2, r3, r4]) rfl ⟨got_none HD.out, below_setRow hB4 (Nat.le_refl _) _⟩
    · have HD := Lib.hid (show decO s.data.toList = none by unfold decO; rw [ht]; simp; intro h; exact absurd (by rw [h]; simp) hm)
      have d1 : decide ((m : Int) = s.size) = false := decide_eq_false (by omega)
      have d2 : ((m : Int) != s.size) = true := by rw [bne, show ((m : Int) == s.size) = decide ((m : Int) = s.size) from rfl, d1]; rfl
      clear ht
      go_enter Try.func15, Try.ntmps15
      go_wp2_with fail
      rw [HW1.out]
      refine (HT.out _).mono ?_
      rintro e w2 ⟨rfl, hb2⟩
      obtain ⟨w3, hw3, hB3, hr3, hh3, hlt, hlt3⟩ := HK.out w2 o hb2
      have HW3 := Lib.hid hw3
      have hn := World.alloc_heap_new w2 (.cells #[.int .i64 0, .int .i64 0, .int .i64 0, .int .i64 0, .int .i64 0] 23)
      obtain ⟨r0, r1, r2, r3, r4⟩ := row_cells (p := zeroOrd) hr3
      clear hw3
      go_wp2_with (first | (refine wpList_store_row rfl _ _ (.tmp 10) rfl w2.heap.size (ordCells o) rfl rfl _ _ hn (by kernel_rfl) rfl (ord_one _) ?_; rw [HW3.out]) | refine wpList_store_row rfl _ _ (.tmp 26) rfl w.heap.size (ordCells zeroOrd) rfl rfl _ _ hr3 (by kernel_rfl) rfl (ord_one _) ?_)
      (try simp only [Exit.inBlock, Exit.then])
      refine bodyPost_ret (by simp [results, Try.results15, go_sem, r0, r1, r2, r3, r4]) rfl ⟨got_none HD.out, below_setRow hB3 (Nat.le_refl _) _⟩
end Go.Proofs.Ytcooaagacdfbiaa
