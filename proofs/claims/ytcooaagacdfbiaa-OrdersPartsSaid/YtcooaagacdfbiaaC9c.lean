/- The contract of orders.Decode. -/
import Derived.Test.YtcooaagacdfbiaaC9b
import Derived.Laws.CopyOwn
namespace Go.Proofs.Ytcooaagacdfbiaa
open Go.RowKit

/-- n ints, one behind the other, from a place on. -/
def getK (l : List UInt8) : Nat → Nat → Option (List Int × Nat)
  | 0, p => some ([], p)
  | n + 1, p => (getI l p).bind fun x => (getK l n x.2).map fun y => (x.1 :: y.1, y.2)
/-- Where the loop stands: xs have come, the next one's place is p. -/
def Listing (l : List UInt8) (n m i p : Nat) (xs : List Int) : Prop := i ≤ n ∧ xs.length = i ∧ getK l n m = (getK l (n - i) p).map fun y => (xs ++ y.1, y.2)
theorem listing_start (l : List UInt8) (n m : Nat) : Listing l n m 0 m [] := by
  refine ⟨Nat.zero_le _, rfl, ?_⟩
  show _ = (getK l n m).map _
  cases getK l n m with
  | none => rfl
  | some x => simp
theorem listing_more {l : List UInt8} {n m i p q : Nat} {x : Int} {xs : List Int} (h : Listing l n m i p xs) (hi : i < n) (hx : getI l p = some (x, q)) : Listing l n m (i + 1) q (xs ++ [x]) := by
  obtain ⟨_, h2, h3⟩ := h
  refine ⟨by omega, by simp [h2], ?_⟩
  obtain ⟨k, hk⟩ : ∃ k, n - i = k + 1 := ⟨n - i - 1, by omega⟩
  have hk2 : n - (i + 1) = k := by omega
  rw [h3, hk, hk2, getK, hx]
  simp only [Option.bind_some, Option.map_map]
  cases getK l k q with
  | none => rfl
  | some y => simp
theorem listing_none {l : List UInt8} {n m i p : Nat} {xs : List Int} (h : Listing l n m i p xs) (hi : i < n) (hx : getI l p = none) : getK l n m = none := by
  obtain ⟨k, hk⟩ : ∃ k, n - i = k + 1 := ⟨n - i - 1, by omega⟩
  rw [h.2.2, hk, getK, hx]; rfl
theorem listing_end {l : List UInt8} {n m p : Nat} {xs : List Int} (h : Listing l n m n p xs) : getK l n m = some (xs, p) := by
  rw [h.2.2, Nat.sub_self]; simp [getK]

def ordOf (xs : List Int) : Ord := ⟨xs.getD 0 0, xs.getD 1 0, xs.getD 2 0, xs.getD 3 0, xs.getD 4 0⟩
/-- Five ints at a place, as an order, whatever they are. -/
def takeO (l : List UInt8) (p : Nat) : Option (Ord × Nat) := (getK l 5 p).map fun x => (ordOf x.1, x.2)
/-- The order of some bytes. -/
def decO (l : List UInt8) : Option Ord := (takeO l 0).bind fun x => if x.2 = l.length ∧ mayB x.1 = true then some x.1 else none

def Ord.set (o : Ord) (k : Nat) (x : Int) : Ord := match k with
  | 0 => { o with id := x }
  | 1 => { o with stream := x }
  | 2 => { o with expect := x }
  | 3 => { o with kind := x }
  | _ => { o with arg := x }
theorem ord_set_block {w : World} {B : Nat} {o : Ord} {t : TypeId} (h : w.heap[B]? = some (.cells (ordCells o) t (0, 0))) (k : Nat) (hk : k < 5) (x : Int) :
    (w.setCell ⟨B, k, none⟩ (.int .i64 x)).heap[B]? = some (.cells (ordCells (o.set k x)) t (0, 0)) := by
  simp only [World.setCell, Array.getElem?_modify, h]
  match k, hk with
  | 0, _ => simp [ordCells, Ord.set]
  | 1, _ => simp [ordCells, Ord.set]
  | 2, _ => simp [ordCells, Ord.set]
  | 3, _ => simp [ordCells, Ord.set]
  | 4, _ => simp [ordCells, Ord.set]
theorem set_snoc (xs : List Int) (x : Int) (h : xs.length < 5) : (ordOf xs).set xs.length x = ordOf (xs ++ [x]) := by
  match xs, h with
  | [], _ => rfl
  | [a], _ => rfl
  | [a, b], _ => rfl
  | [a, b, c], _ => rfl
  | [a, b, c, d], _ => rfl
  | _ :: _ :: _ :: _ :: _ :: r, h => simp at h; omega

/-- What a decoder hands back: an order, or none. -/
def zeroOrd : Ord := ⟨0, 0, 0, 0, 0⟩
def gotO (d : Option Ord) : Ord := d.getD zeroOrd

theorem row_cells {w : World} {B : Nat} {o p : Ord} {t : TypeId} (h : w.heap[B]? = some (.cells (ordCells o) t (0, 0))) :
    (w.setRow B (ordCells p)).cell? ⟨B, 0, none⟩ = some (.int .i64 p.id) ∧ (w.setRow B (ordCells p)).cell? ⟨B, 1, none⟩ = some (.int .i64 p.stream) ∧ (w.setRow B (ordCells p)).cell? ⟨B, 2, none⟩ = some (.int .i64 p.expect) ∧
    (w.setRow B (ordCells p)).cell? ⟨B, 3, none⟩ = some (.int .i64 p.kind) ∧ (w.setRow B (ordCells p)).cell? ⟨B, 4, none⟩ = some (.int .i64 p.arg) :=
  have h' := setRow_heap w B _ (ordCells p) _ _ h
  ⟨ord_cell h' 0 (by decide), ord_cell h' 1 (by decide), ord_cell h' 2 (by decide), ord_cell h' 3 (by decide), ord_cell h' 4 (by decide)⟩
theorem ord_one (o : Ord) : (ordCells o).all (·.oneCell') = true := by simp [ordCells, Value.oneCell']
theorem got_none {d : Option Ord} (h : d = none) : Ending.returned (.tuple #[.agg #[.int .i64 zeroOrd.id, .int .i64 zeroOrd.stream, .int .i64 zeroOrd.expect, .int .i64 zeroOrd.kind, .int .i64 zeroOrd.arg], .int .i64 30]) =
    Ending.returned (.tuple #[.agg #[.int .i64 (gotO d).id, .int .i64 (gotO d).stream, .int .i64 (gotO d).expect, .int .i64 (gotO d).kind, .int .i64 (gotO d).arg], .int .i64 (errno d.isSome 30)]) := by subst h; rfl
theorem got_some {d : Option Ord} {o : Ord} (h : d = some o) : Ending.returned (.tuple #[.agg #[.int .i64 o.id, .int .i64 o.stream, .int .i64 o.expect, .int .i64 o.kind, .int .i64 o.arg], .int .i64 0]) =
    Ending.returned (.tuple #[.agg #[.int .i64 (gotO d).id, .int .i64 (gotO d).stream, .int .i64 (gotO d).expect, .int .i64 (gotO d).kind, .int .i64 (gotO d).arg], .int .i64 (errno d.isSome 30)]) := by subst h; rfl

set_option maxRecDepth 100000 in
set_option maxHeartbeats 4000000 in
theorem decode_any (s : ByteArray) (hs : s.size ≤ maxLen) (w : World) :
    Calls Try.prog 14 #[.string s] w fun e w' =>
      e = .returned (.tuple #[.agg #[.int .i64 (gotO (decO s.data.toList)).id, .int .i64 (gotO (decO s.data.toList)).stream, .int .i64 (gotO (decO s.data.toList)).expect, .int .i64 (gotO (decO s.data.toList)).kind, .int .i64 (gotO (decO s.data.toList)).arg], .int .i64 (errno (decO s.data.toList).isSome 30)]) ∧ Below w.heap.size w w' := by
  have Hs := Lib.hid hs
  have hsz := bytes_len s
  unfold maxLen at hs
  obtain ⟨w1, hw1⟩ : ∃ w1, (w.alloc (.cells #[.int .i64 0, .int .i64 0, .int .i64 0, .int .i64 0, .int .i64 0] 23)).alloc (.cells #[.int .i64 0, .int .i64 0, .int .i64 0, .int .i64 0, .int .i64 0] 23) = w1 := ⟨_, rfl⟩
  have hb1 : Below w.heap.size w w1 := by rw [← hw1]; exact ((Below.refl _ _).alloc (Nat.le_refl _) _).alloc (by simp) _
  have hs1 : w1.heap.size = w.heap.size + 2 := by rw [← hw1]; simp
  have hr1 : w1.heap[w.heap.size]? = some (.cells (ordCells zeroOrd) 23 (0, 0)) := by
    rw [← hw1, Below.heap_alloc _ _ _ (by simp)]; exact World.alloc_heap_new w _
  have hh1 : w1.heap[w.heap.size + 1]? = some (.cells (ordCells (ordOf [])) 23 (0, 0)) := by
    rw [← hw1]
    have := World.alloc_heap_new (w.alloc (.cells #[.int .i64 0, .int .i64 0, .int .i64 0, .int .i64 0, .int .i64 0] 23)) (.cells #[.int .i64 0, .int .i64 0, .int .i64 0, .int .i64 0, .int .i64 0] 23)
    rw [World.size_alloc] at this
    exact this
  have HF := Lib.hid (fields_any (w.heap.size + 1) w1 _ _ _ _ _ (ord_cell hh1 0 (by decide)) (ord_cell hh1 1 (by decide)) (ord_cell hh1 2 (by decide)) (ord_cell hh1 3 (by decide)) (ord_cell hh1 4 (by decide)))
  rw [hs1] at HF
  have HW1 := Lib.hid hw1
  have HR1 := Lib.hid hr1
  have HH1 := Lib.hid hh1
  clear hw1 hr1 hh1
  go_enter Try.func14, Try.ntmps14
  go_wp2_with fail
  rw [HW1.out]
  refine HF.out.mono ?_
  rintro e w2 ⟨rfl, hb2, hs2, hf2⟩
  have hB2 := hb1.trans (hb2.mono (by omega))
  have HF2 := Lib.hid hf2
  have HR2 := Lib.hid ((hb2.block _ (by omega)).trans HR1.out)
  have HH2 := Lib.hid ((hb2.block _ (by omega)).trans HH1.out)
  clear hf2 hb2 HF HW1
  go_wp2
  go_loopw [5, 13] (fun q p wr => ∃ (k m : Nat) (xs : List Int), p = .int .i64 k ∧ q = .int .i64 m ∧ Listing s.data.toList 5 0 k m xs ∧ Below w.heap.size w wr ∧ w.heap.size + 3 ≤ wr.heap.size ∧
      wr.heap[w.heap.size]? = some (.cells (ordCells zeroOrd) 23 (0, 0)) ∧ wr.heap[w.heap.size + 1]? = some (.cells (ordCells (ordOf xs)) 23 (0, 0)) ∧ wr.heap[w.heap.size + 2]? = some (.cells (fieldCells (w.heap.size + 1)) 45 (0, 0))) (fun _ p _ => 5 - (intOf p).toNat)
  case atStart => exact ⟨0, 0, [], rfl, rfl, listing_start _ _ _, hB2, by omega, HR2.out, HH2.out, HF2.out⟩
  case round =>
    obtain ⟨k, m, xs, rfl, rfl, hL, hB, hz, hr, hh, hf⟩ := hrel
    have hk := hL.1
    have hxl := Lib.hid hL.2.1
    by_cases hlt : k < 5
    · cases hg : getI s.data.toList m with
      | none =>
        have HG := Lib.hid (get_no Hs.out hg)
        have HD := Lib.hid (show decO s.data.toList = none by unfold decO takeO; rw [listing_none hL hlt hg]; rfl)
        obtain ⟨c0, c1, c2⟩ := field_cells hf hlt
        have HH := Lib.hid hh
        have HR := Lib.hid hr
        have hw3 : ∃ w3, wr.alloc (.cells #[.pointer (some ⟨w.heap.size + 1, k, none⟩), .int .i64 (least k), .int .i64 (most k)] 45) = w3 ∧ Below w.heap.size w w3 ∧ w3.heap[w.heap.size]? = some (.cells (ordCells zeroOrd) 23 (0, 0)) :=
          ⟨_, rfl, hB.alloc hB.size _, by rw [Below.heap_alloc _ _ _ (by omega)]; exact hr⟩
        obtain ⟨w3, hw3, hB3, hr3⟩ := hw3
        have HW3 := Lib.hid hw3
        clear hh hr hf hg hL hw3
        go_wp2_with fail
        rw [HW3.out]
        refine (HG.out _).mono ?_
        rintro e w4 ⟨rfl, rfl⟩
        obtain ⟨r0, r1, r2, r3, r4⟩ := row_cells (p := zeroOrd) hr3
        go_wp2_with (refine wpList_store_row rfl _ _ _ rfl w.heap.size (ordCells zeroOrd) rfl rfl _ _ hr3 (by kernel_rfl) rfl (ord_one _) ?_)
        (try simp only [Exit.inBlock, Exit.then])
        refine bodyPost_ret (by simp [results, Try.results14, go_sem, r0, r1, r2, r3, r4]) rfl ⟨got_none HD.out, below_setRow hB3 (Nat.le_refl _) _⟩
      | some y =>
        obtain ⟨x, q⟩ := y
        have HG := Lib.hid (get_yes Hs.out hg)
        have HN := Lib.hid (listing_more hL hlt hg)
        obtain ⟨c0, c1, c2⟩ := field_cells hf hlt
        have hx := ord_cell hh k hlt
        have hx' : (wr.alloc (.cells #[.pointer (some ⟨w.heap.size + 1, k, none⟩), .int .i64 (least k), .int .i64 (most k)] 45)).cell? ⟨w.heap.size + 1, k, none⟩ = some (.int .i64 ((ordOf xs).fld k)) := by
          rw [World.cell?_alloc_past _ _ _ (by show w.heap.size + 1 < wr.heap.size; omega)]; exact hx
        have hfz : (wr.alloc (.cells #[.pointer (some ⟨w.heap.size + 1, k, none⟩), .int .i64 (least k), .int .i64 (most k)] 45)).frozen? ⟨w.heap.size + 1, k, none⟩ = false := by
          rw [World.frozen?_alloc_past _ _ _ (by show w.heap.size + 1 < wr.heap.size; omega)]
          simp [World.frozen?, hh]
        have HH := Lib.hid hh
        have HR := Lib.hid hr
        have HF := Lib.hid hf
        clear hh hr hf hg hL hx
        go_wp2_with fail
        refine (HG.out _).mono ?_
        rintro e w3 ⟨rfl, rfl⟩
        go_wp2
        have HP := Lib.hid (show wr.alloc (.cells #[.pointer (some ⟨w.heap.size + 1, k, none⟩), .int .i64 (least k), .int .i64 (most k)] 45) = wr.alloc (.cells #[.pointer (some ⟨w.heap.size + 1, k, none⟩), .int .i64 (least k), .int .i64 (most k)] 45) from rfl)
        go_roundw
        case rel =>
          refine ⟨k + 1, q, xs ++ [x], by go_num, rfl, HN.out, (hB.alloc hB.size _).setCell (by show w.heap.size ≤ w.heap.size + 1; omega) _, by simp; omega, ?_, ?_, ?_⟩
          · rw [Below.heap_setCell _ _ _ _ (by show w.heap.size ≠ w.heap.size + 1; omega), Below.heap_alloc _ _ _ (by omega)]; exact HR.out
          · have hq : (wr.alloc (.cells #[.pointer (some ⟨w.heap.size + 1, k, none⟩), .int .i64 (least k), .int .i64 (most k)] 45)).heap[w.heap.size + 1]? = some (.cells (ordCells (ordOf xs)) 23 (0, 0)) := by
              rw [Below.heap_alloc _ _ _ (by omega)]; exact HH.out
            have hk2 := hxl.out
            subst hk2
            rw [ord_set_block hq _ hlt, set_snoc xs x hlt]
          · rw [Below.heap_setCell _ _ _ _ (by show w.heap.size + 2 ≠ w.heap.size + 1; omega), Below.heap_alloc _ _ _ (by omega)]; exact HF.out
        case measure => simp [intOf]; omega
    · obtain rfl : k = 5 := by omega
      have hE := listing_end hL
      have HH := Lib.hid hh
      have HR := Lib.hid hr
      clear hf hL
      by_cases hm : m = s.data.toList.length
      · cases hv : mayB (ordOf xs) with
        | true =>
          have HD := Lib.hid (show decO s.data.toList = some (ordOf xs) by unfold decO takeO; rw [hE]; simp [hm, hv])
          have HC := Lib.hid (check_yes hv)
          have d1 : decide ((m : Int) = s.size) = true := decide_eq_true (by omega)
          have h0 := ord_cell hh 0 (by decide)
          have h1 := ord_cell hh 1 (by decide)
          have h2 := ord_cell hh 2 (by decide)
          have h3 := ord_cell hh 3 (by decide)
          have h4 := ord_cell hh 4 (by decide)
          go_wp2_with fail
          refine (HC.out _).mono ?_
          rintro e w4 ⟨rfl, hb4⟩
          have hB4 := hB.trans (hb4.mono hB.size)
          have hr4 := (hb4.block _ (by omega)).trans hr
          have hh4 := (hb4.block _ (by omega)).trans hh
          have h0 := ord_cell hh4 0 (by decide)
          have h1 := ord_cell hh4 1 (by decide)
          have h2 := ord_cell hh4 2 (by decide)
          have h3 := ord_cell hh4 3 (by decide)
          have h4 := ord_cell hh4 4 (by decide)
          obtain ⟨r0, r1, r2, r3, r4⟩ := row_cells (p := ordOf xs) hr4
          go_wp2_with (refine wpList_store_row rfl _ _ _ rfl w.heap.size (ordCells (ordOf xs)) rfl rfl _ _ hr4 (by kernel_rfl) rfl (ord_one _) ?_)
          (try simp only [Exit.inBlock, Exit.then])
          refine bodyPost_ret (by simp [results, Try.results14, go_sem, r0, r1, r2, r3, r4]) rfl ⟨got_some HD.out, below_setRow hB4 (Nat.le_refl _) _⟩
        | false =>
          have HD := Lib.hid (show decO s.data.toList = none by unfold decO takeO; rw [hE]; simp [hv])
          have HC := Lib.hid (check_no hv)
          have d1 : decide ((m : Int) = s.size) = true := decide_eq_true (by omega)
          have h0 := ord_cell hh 0 (by decide)
          have h1 := ord_cell hh 1 (by decide)
          have h2 := ord_cell hh 2 (by decide)
          have h3 := ord_cell hh 3 (by decide)
          have h4 := ord_cell hh 4 (by decide)
          go_wp2_with fail
          refine (HC.out _).mono ?_
          rintro e w4 ⟨rfl, hb4⟩
          have hB4 := hB.trans (hb4.mono hB.size)
          have hr4 := (hb4.block _ (by omega)).trans hr
          obtain ⟨r0, r1, r2, r3, r4⟩ := row_cells (p := zeroOrd) hr4
          go_wp2_with (refine wpList_store_row rfl _ _ _ rfl w.heap.size (ordCells zeroOrd) rfl rfl _ _ hr4 (by kernel_rfl) rfl (ord_one _) ?_)
          (try simp only [Exit.inBlock, Exit.then])
          refine bodyPost_ret (by simp [results, Try.results14, go_sem, r0, r1, r2, r3, r4]) rfl ⟨got_none HD.out, below_setRow hB4 (Nat.le_refl _) _⟩
      · have HD := Lib.hid (show decO s.data.toList = none by unfold decO takeO; rw [hE]; simp; intro h; exact absurd (by rw [h]; simp) hm)
        have d1 : decide ((m : Int) = s.size) = false := decide_eq_false (by omega)
        have h0 := ord_cell HR.out 0 (by decide)
        have h1 := ord_cell HR.out 1 (by decide)
        have h2 := ord_cell HR.out 2 (by decide)
        have h3 := ord_cell HR.out 3 (by decide)
        have h4 := ord_cell HR.out 4 (by decide)
        clear h0 h1 h2 h3 h4 hh hE
        obtain ⟨r0, r1, r2, r3, r4⟩ := row_cells (p := zeroOrd) hr
        go_wp2_with (refine wpList_store_row rfl _ _ _ rfl w.heap.size (ordCells zeroOrd) rfl rfl _ _ hr (by kernel_rfl) rfl (ord_one _) ?_)
        (try simp only [Exit.inBlock, Exit.then])
        refine bodyPost_ret (by simp [results, Try.results14, go_sem, r0, r1, r2, r3, r4]) rfl ⟨got_none HD.out, below_setRow hB (Nat.le_refl _) _⟩
end Go.Proofs.Ytcooaagacdfbiaa
