/- The contract of Less: a range over the iterator back. -/
import Derived.RangeFuncNested
import Derived.RangeFuncBound
import Derived.RangeFuncCalls
import Derived.RangeFuncLeaves
import Derived.RangeFuncFrom
import Derived.Shelf.Abstract
import Derived.Shelf.RegionOpen
import Derived.WalkKit
import Derived.OwnWalkIn
import Derived.TacticsInMore
import Derived.LoopNIn
import Derived.LoopIn
import Derived.Outline
import Derived.Test.YtbmlokbgbbilfaaAid
import Derived.Test.YtbmlokbgbbilfaaC2a
namespace Go.Proofs.Ytbmlokbgbbilfaa
open Go.RowKit Go.Shelf
attribute [local go_sem] Oper.semAt_some

def KeepsCell (B : Nat) (A C : World) : Prop := C.cell? ⟨B, 0, none⟩ = A.cell? ⟨B, 0, none⟩

set_option maxRecDepth 100000 in
set_option maxHeartbeats 1000000 in
theorem back_in (F : Fence) (n : Nat) (hf : F.fn 18) (hro : F.round = none) (s : ByteArray) (w : World) :
    CallsIn F n Try.prog 18 #[.string s] w fun e w' => e = .returned (.func (.func 20) #[] #[.pointer (some ⟨w.heap.size, 0, none⟩)]) ∧ w' = w.alloc (.cells #[.string s] 9) := by
  refine callsIn_of_wp Try.func18 rfl hf ?_ hro
  simp only [Try.ntmps18, List.size_toArray, List.length_cons, List.length_nil, Nat.reduceAdd, Nat.reduceSub, Array.replicate_succ, Array.replicate_zero, List.push_toArray, List.append_toArray, List.nil_append, List.cons_append]
  gi_wp2
  go_ret
  exact ⟨rfl, rfl⟩

theorem rev_snoc (l : List UInt8) (m : Nat) (h : m < l.length) : (l.drop m).reverse = (l.drop (m + 1)).reverse ++ [l[m]] := by
  rw [List.drop_eq_getElem_cons h, List.reverse_cons]

set_option maxRecDepth 100000 in
set_option maxHeartbeats 2000000 in
theorem iter_in (F : Fence) (n : Nat) (hf : F.fn 20) (hro : F.round = none) (hn : 1 ≤ n) (l Bn : Nat) (s : ByteArray) (hs : s.size ≤ maxLen) (J Jx : List UInt8 → World → Prop)
    (hY : ∀ pre x W, J pre W → pre.length < s.size → YieldAt F (n - 1) Try.prog l #[.int .u8 (x.toNat : Int)] W fun e W' =>
      (e = .returned (.bool true) ∧ J (pre ++ [x]) W' ∧ KeepsCell Bn W W') ∨ (e = .returned (.bool false) ∧ Jx (pre ++ [x]) W'))
    (W : World) (hBn : W.cell? ⟨Bn, 0, none⟩ = some (.string s)) (h0 : J [] W) :
    CallsIn F n Try.prog 20 #[.func (.yield l) #[] #[], .pointer (some ⟨Bn, 0, none⟩)] W fun e W' => (∃ v, e = .returned v) ∧
      ((∃ ys, ys = s.data.toList.reverse ∧ J ys W') ∨ (∃ pre, True ∧ Jx pre W')) := by
  unfold maxLen at hs
  have Hsz := Lib.hid (show s.data.toList.length = s.size from Array.length_toList)
  refine callsIn_of_wp Try.func20 rfl hf ?_ hro
  simp only [Try.ntmps20, List.size_toArray, List.length_cons, List.length_nil, Nat.reduceAdd, Nat.reduceSub, Array.replicate_succ, Array.replicate_zero, List.push_toArray, List.append_toArray, List.nil_append, List.cons_append]
  gi_wp2
  gi_loopw [3] (fun p wr => ∃ m : Nat, m ≤ s.size ∧ p = .int .i64 ((m : Int) - 1) ∧ J (s.data.toList.drop m).reverse wr ∧ wr.cell? ⟨Bn, 0, none⟩ = some (.string s))
    (fun p _ => (intOf p + 1).toNat)
  case atStart => exact ⟨s.size, Nat.le_refl _, rfl, by rw [List.drop_of_length_le (by rw [Hsz.out]; exact Nat.le_refl _)]; exact h0, hBn⟩
  case round =>
    obtain ⟨m, hm, rfl, hJs, hc⟩ := hrel
    by_cases hlt : 1 ≤ m
    · obtain ⟨j, rfl⟩ : ∃ j, m = j + 1 := ⟨m - 1, by omega⟩
      have ej : ((j + 1 : Nat) : Int) - 1 = (j : Int) := by omega
      rw [ej]; clear ej
      obtain ⟨fn, tmps, assign, body, hy, hR⟩ := hY _ s[j] wr hJs (by rw [List.length_reverse, List.length_drop, Hsz.out]; omega)
      have Hr := Lib.hid (rev_snoc s.data.toList j (by rw [Hsz.out]; omega))
      gi_wp2
      refine hR.mono ?_
      rintro e W3 (⟨rfl, hJ3, hk3⟩ | ⟨rfl, hJx3⟩)
      · have hq3 : W3.cell? ⟨Bn, 0, none⟩ = some (.string s) := Eq.trans hk3 hc
        gi_wp2
        go_roundw
        case rel => exact ⟨j, by omega, rfl, by rw [Hr.out]; exact hJ3, hq3⟩
        case measure => simp [intOf]
      · gi_wp2
        go_end0
        exact ⟨⟨_, rfl⟩, .inr ⟨_, trivial, hJx3⟩⟩
    · obtain rfl : m = 0 := by omega
      gi_wp2
      refine ⟨fun _ h => (by cases h), ?_⟩
      gi_wp2
      go_end0
      exact ⟨⟨_, rfl⟩, .inl ⟨_, rfl, hJs⟩⟩

theorem keepsCell_b {B : Nat} {w : World} (hB : B < w.heap.size) (W : World) (l : Nat) (o o' : Obj) (hl : w.heap.size ≤ l) (h : W.heap[l]? = some o) (_ : o.isCells = false) (_ : o.isWalk = false) : KeepsCell B W (W.putObj l o') := by
  have hlt := (Array.getElem?_eq_some_iff.1 h).1
  exact World.cell?_of_block ((grownBy_putObj' W l o').block B (by omega) (by intro e; cases e; omega))

theorem iter_stops (F : Fence) (n : Nat) (hf : F.fn 20) (hro : F.round = none) (hn : 1 ≤ n) (Bn : Nat) (s : ByteArray) (hs : s.size ≤ maxLen) (w : World) (hB : Bn < w.heap.size)
    (hc : w.cell? ⟨Bn, 0, none⟩ = some (.string s)) :
    SeqStopsK F n Try.prog 20 #[.pointer (some ⟨Bn, 0, none⟩)] (fun x : UInt8 => #[Value.int .u8 (x.toNat : Int)]) (KeepsCell Bn) (fun ys => ys = s.data.toList.reverse) (fun _ => True) s.size w := fun l J Jx W hW _ _ hY h0 =>
  iter_in F n hf hro hn l Bn s hs J Jx hY W ((hW.cell (p := ⟨Bn, 0, none⟩) hB).trans hc) h0

theorem stored_rel {W wr w : World} {u v : Value} (hc : wr.cell? ⟨w.heap.size, 0, none⟩ = some u) (hf : wr.frozen? ⟨w.heap.size, 0, none⟩ = false) (hk1 : KeepsOthers W wr) (hk2 : KeepsCell (w.heap.size + 1) W wr) (hB : Below w.heap.size w wr) :
    (wr.setCell ⟨w.heap.size, 0, none⟩ v).cell? ⟨w.heap.size, 0, none⟩ = some v ∧ (wr.setCell ⟨w.heap.size, 0, none⟩ v).frozen? ⟨w.heap.size, 0, none⟩ = false ∧ KeepsOthers W (wr.setCell ⟨w.heap.size, 0, none⟩ v) ∧
    KeepsCell (w.heap.size + 1) W (wr.setCell ⟨w.heap.size, 0, none⟩ v) ∧ Below w.heap.size w (wr.setCell ⟨w.heap.size, 0, none⟩ v) :=
  ⟨World.cell?_setCell_same' _ _ _ (by rw [hc]; rfl), by rw [World.frozen?_setCell]; exact hf, hk1.trans (KeepsOthers.setCell _ _ _),
    (World.cell?_setCell_other _ _ _ _ (by simp)).trans hk2, hB.setCell (p := ⟨w.heap.size, 0, none⟩) (Nat.le_refl _) _⟩

set_option maxRecDepth 100000 in
set_option maxHeartbeats 2000000 in
theorem less_in (F : Fence) (n : Nat) (hf : F.fn 15) (h5 : F.fn 18) (h6 : F.fn 20) (hro : F.round = none) (hn : 3 ≤ n) (x : Crc.Reg) (s : ByteArray) (hs' : s.size ≤ maxLen) (w : World) :
    CallsIn F n Try.prog 15 #[.int .u32 (J x), .string s] w fun e w' => e = .returned (.int .u32 (J (Crc.less x s.data.toList))) ∧ Below w.heap.size w w' := by
  have h1 : 1 ≤ n := by omega
  have Em := Lib.hid (show bits .xor .u32 IntKind.u32.max (J x) = J (~~~x) from not_J x)
  refine callsIn_of_wp_marks Try.func15 rfl hf ?_ hro
  simp only [Try.ntmps15, List.size_toArray, List.length_cons, List.length_nil, Nat.reduceAdd, Nat.reduceSub, Array.replicate_succ, Array.replicate_zero, List.push_toArray, List.append_toArray, List.nil_append, List.cons_append]
  gi_wp2_with (gi_at_call 18; refine (back_in F (n - 1) h5 hro _ _).mono ?_; rintro e w' ⟨rfl, rfl⟩)
  rw [Em.out]
  have hs := new_cell w (.int .u32 (J (~~~x))) 22
  have hb := new_cell (w.alloc (.cells #[.int .u32 (J (~~~x))] 22)) (.string s) 9
  rw [World.size_alloc] at hb
  have hB0 : Below w.heap.size w ((w.alloc (.cells #[.int .u32 (J (~~~x))] 22)).alloc (.cells #[.string s] 9)) := ((Below.refl _ w).alloc (Nat.le_refl _) _).alloc (by simp) _
  refine wpIn_rangeFunc_ownF hro h1 (gf := 20) (lb := #[.pointer (some ⟨w.heap.size + 1, 0, none⟩)]) rfl h6 (enters_of Try.func20 (by kernel_rfl) rfl)
    (iter_stops F (n - 1) h6 hro (by omega) (w.heap.size + 1) s hs' _ (by simp) hb.1) (fun h k => Eq.trans k h) (keepsCell_b (by simp)) (Below.refl _ _) (fun _ => rfl)
    (fun pre W => (W.cell? ⟨w.heap.size, 0, none⟩ = some (.int .u32 (J (Crc.bwd (~~~x) pre.reverse))) ∧ W.frozen? ⟨w.heap.size, 0, none⟩ = false) ∧ Below w.heap.size w W)
    (fun _ _ _ => False)
    (OwnFrom.and (Own.from (fun s A B row hs hg hr => ⟨cell_kept hs.1 hg hr, (frozen_kept hs.1 hg hr).trans hs.2⟩) _) (ownFrom_below (Nat.le_refl _) (by simp; omega)))
    (fun _ _ _ _ _ hs _ _ => hs)
    ⟨⟨cell_alloc _ hs.1, frozen_alloc _ hs.1 hs.2⟩, hB0⟩
    (fun y : UInt8 => { tmps := #[.int .u32 (J x), .string s, undef, undef, .int .u32 0, .pointer (some ⟨w.heap.size, 0, none⟩), .int .u8 (y.toNat : Int), .int .u32 (J x), .int .u32 (J (~~~x)), .string s, .func (.func 20) #[] #[.pointer (some ⟨w.heap.size + 1, 0, none⟩)], .int .u8 (y.toNat : Int), undef, undef, undef, undef, undef, undef, undef, undef, undef, undef, undef, undef, undef, undef, undef, undef, undef, undef], defers := [] }) ?assign ?body ?done ?stop
  case assign =>
    intro l x W K hK
    gi_wp2
    exact hK
  case body =>
    rintro l pre y W ⟨⟨hc, hf⟩, hB⟩ _
    have Hr := Lib.hid (show Crc.off (Crc.bwd (~~~x) pre.reverse) y = Crc.bwd (~~~x) (pre ++ [y]).reverse by rw [List.reverse_append]; rfl)
    generalize Crc.bwd (~~~x) pre.reverse = q at *
    gi_wp2
    gi_loopw [12] (fun i W1 => ∃ k : Nat, k ≤ 8 ∧ i = .int .i64 k ∧ W1.cell? ⟨w.heap.size, 0, none⟩ = some (.int .u32 (J (Crc.unsteps k q))) ∧ W1.frozen? ⟨w.heap.size, 0, none⟩ = false ∧ KeepsOthers W W1 ∧ KeepsCell (w.heap.size + 1) W W1 ∧ Below w.heap.size w W1)
      (fun i _ => 8 - (intOf i).toNat)
    case atStart => exact ⟨0, Nat.zero_le _, rfl, hc, hf, KeepsOthers.refl _, rfl, hB⟩
    case round =>
      obtain ⟨k, hk, rfl, hc1, hf1, hk1, hk2, hB1⟩ := hrel
      clear hc hf hB
      have HK2 := Lib.hid hk2
      clear hk2
      by_cases hlt : k < 8
      · have Hq := Lib.hid (unsteps_round k q)
        generalize Crc.unsteps k q = p at *
        have Ha := Lib.hid (show bits .and .u32 (J p) 2147483648 = J (if p.msb then 2147483648#32 else 0#32) by rw [← J_high, and_J, andHigh])
        cases hb : p.msb
        · have hm : (bits .and .u32 (J p) 2147483648 == 0) = true := by rw [Ha.out, hb]; decide +kernel
          have Hb := Lib.hid hb; clear hb
          gi_wp2
          go_roundw
          case rel => exact ⟨k + 1, by omega, by go_num, by rw [← IntKind.wrap_u32', round_less0 p Hb.out, Hq.out]; exact stored_rel hc1 hf1 hk1 HK2.out hB1⟩
          case measure => simp [intOf]; omega
        · have hm : (bits .and .u32 (J p) 2147483648 == 0) = false := by rw [Ha.out, hb]; decide +kernel
          have Hb := Lib.hid hb; clear hb
          gi_wp2
          go_roundw
          case rel => exact ⟨k + 1, by omega, by go_num, by rw [← IntKind.wrap_u32', round_less1 p Hb.out, Hq.out]; exact stored_rel hc1 hf1 hk1 HK2.out hB1⟩
          case measure => simp [intOf]; omega
      · obtain rfl : k = 8 := by omega
        gi_wp2
        rw [byte_mod, xor_J]
        obtain ⟨r1, r2, r3, r4, r5⟩ := stored_rel (v := .int .u32 (J (Crc.unsteps 8 q ^^^ Crc.wide y))) hc1 hf1 hk1 HK2.out hB1
        exact ⟨r3, r4, ⟨by rw [← Hr.out]; exact r1, r2⟩, r5⟩
  case done =>
    rintro D ys W hD rfl ⟨⟨hc, _⟩, hB⟩ hK
    gi_wp2
    refine ⟨by simp, .inl ⟨_, _, rfl, run_takeDeferred hK, ?_⟩⟩
    refine ⟨_, results_tmp rfl _ _ _, ?_, hB.trans (belowK_b (w := w) (Nat.le_refl _) W D _ _ (by simp at hD; omega) hK rfl rfl)⟩
    exact ret_u32 (not_J _)
  case stop =>
    rintro D c pre W _ _ h _
    exact h.elim

theorem less_any (a : Int) (h0 : 0 ≤ a) (H1 : Hid (a < 4294967296)) (s : ByteArray) (hs : s.size ≤ maxLen) (w : World) :
    Calls Try.prog 15 #[.int .u32 a, .string s] w fun e w' => e = .returned (.int .u32 (J (Crc.less (R a) s.data.toList))) ∧ Below w.heap.size w w' := by
  have h := callsIn_wide.1 (less_in Fence.wide 3 trivial trivial trivial rfl (Nat.le_refl _) (R a) s hs w)
  rw [J_R a h0 H1.out] at h
  exact h
end Go.Proofs.Ytbmlokbgbbilfaa
