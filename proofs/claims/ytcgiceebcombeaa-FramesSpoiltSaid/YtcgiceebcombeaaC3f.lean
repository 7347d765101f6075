/- Lists of texts; the contracts of SameTexts and of both Wholes. -/
import Derived.Test.YtcgiceebcombeaaC3e
import Derived.Deep.QuietTactic
import Derived.WalkLawsBesides
namespace Go.Proofs.Ytcgiceebcombeaa
open Go.RowKit

/-- A slice value that holds these texts. -/
def StrsAt (w : World) (v : Value) (ts : List ByteArray) : Prop :=
  ∃ (a : Option Addr) (cap : Nat), v = .slice a ts.length cap ∧ (ts ≠ [] → ∃ b off, a = some ⟨b, off, none⟩ ∧ b < w.heap.size ∧ ∀ j (h : j < ts.length), w.cell? ⟨b, off + j, none⟩ = some (.string ts[j]))
/-- .. and that is nil only with no room. -/
def StrsIn (w : World) (v : Value) (ts : List ByteArray) : Prop := StrsAt w v ts ∧ ∀ a n c, v = .slice a n c → n ≤ c ∧ (a = none → c = 0)
theorem StrsAt.below {w w' : World} {v : Value} {ts : List ByteArray} (h : StrsAt w v ts) (hb : Below w.heap.size w w') : StrsAt w' v ts := by
  obtain ⟨a, cap, hv, hc⟩ := h
  refine ⟨a, cap, hv, fun hl => ?_⟩
  obtain ⟨b, off, ha, hlt, hcell⟩ := hc hl
  exact ⟨b, off, ha, Nat.lt_of_lt_of_le hlt hb.size, fun j hj => (hb.cell (p := ⟨b, off + j, none⟩) hlt).trans (hcell j hj)⟩
theorem StrsAt.drawn {w : World} {v : Value} {ts : List ByteArray} (h : StrsAt w v ts) (d : Nat) : StrsAt (w.drewN d) v ts := h
/-- Texts in memory of the call's own. -/
def StrsOwn (B : Nat) (w : World) (v : Value) (ts : List ByteArray) : Prop := w.ownsRow B 9 1 v ts.length (ts.map Value.string)
theorem own_strs {B : Nat} {w : World} {v : Value} {ts : List ByteArray} (h : StrsOwn B w v ts) : StrsAt w v ts := by
  obtain ⟨_, h⟩ := h
  rcases h with ⟨hv, h0⟩ | ⟨g, cap, cur, rfl, hb, hh, hn, hc, hs, ht⟩
  · exact ⟨none, 0, by rw [hv, h0], fun hne => absurd (List.eq_nil_of_length_eq_zero h0) hne⟩
  · refine ⟨some ⟨g, 0, none⟩, cap, rfl, fun _ => ⟨g, 0, rfl, (Array.getElem?_eq_some_iff.1 hh).1, fun j hj => ?_⟩⟩
    have h1 : cur.toList[j]? = some (.string ts[j]) := by
      have h2 : (cur.toList.take (ts.length * 1))[j]? = some (.string ts[j]) := by rw [ht]; simp [hj]
      rw [List.getElem?_take_of_lt (by omega)] at h2
      exact h2
    simp only [World.cell?, hh]
    simpa using h1
theorem own_nil (w : World) (B : Nat) : StrsOwn B w (.slice none 0 0) [] := World.ownsRow_nil _ _ _ _
theorem info_str : (Try.prog.info? 9).map (fun i => (i.zero, i.size, i.bytes)) = some (some (.string ByteArray.empty), 1, 16) := by kernel_rfl
theorem one_str (s : ByteArray) : ∀ u ∈ [Value.string s], u.oneCell' = true := by
  intro u hu
  simp at hu; subst hu; rfl

set_option maxRecDepth 100000 in
set_option maxHeartbeats 2000000 in
theorem same_any {va vb : Value} {ts : List ByteArray} (hl : ts.length ≤ 1000000) {w : World} (h1 : StrsAt w va ts) (h2 : StrsAt w vb ts) :
    Calls Try.prog 17 #[va, vb] w fun e w' => e = .returned (.bool true) ∧ ∃ d, w' = w.drewN d := by
  obtain ⟨aa, ca, rfl, ha⟩ := h1
  obtain ⟨ab, cb, rfl, hb⟩ := h2
  have HA := Lib.hid ha
  have HB := Lib.hid hb
  clear ha hb
  go_enter Try.func17, Try.ntmps17
  go_wp2_with fail
  go_loopw [5] (fun p wr => ∃ k q : Nat, k ≤ ts.length ∧ p = .int .i64 k ∧ wr = w.drewN q) (fun p _ => ts.length - (intOf p).toNat)
  case atStart => exact ⟨0, 0, by omega, rfl, rfl⟩
  case round =>
    obtain ⟨k, q, hk, rfl, rfl⟩ := hrel
    by_cases hlt : k < ts.length
    · have hne : ts ≠ [] := fun h => by rw [h] at hlt; simp at hlt
      obtain ⟨b1, o1, rfl, _, c1⟩ := HA.out hne
      obtain ⟨b2, o2, rfl, _, c2⟩ := HB.out hne
      have k1 := c1 k hlt
      have k2 := c2 k hlt
      have i1 : (0 : Int) ≤ k := by omega
      have i2 : (k : Int) < ts.length := by omega
      clear c1 c2 hne
      generalize ts[k] = t at *
      go_wp2_with fail
      go_quiet (fail)
      go_wp2_with fail
      go_roundw
      case rel => exact ⟨k + 1, _, by omega, by go_num, rfl⟩
      case measure => simp [intOf]; omega
    · obtain rfl : k = ts.length := by omega
      go_wp2
      go_ret
      exact ⟨rfl, q, rfl⟩

/-- What Whole answers. -/
def WholeOf (s : ByteArray) (w : World) (e : Ending) (w' : World) : Prop :=
  ∃ (ps : List (List UInt8)) (n : Nat) (v : Value), e = .returned (.tuple #[v, .int .i64 n]) ∧ WholeL s.data.toList ps n ∧ StrsOwn w.heap.size w' v (ps.map str) ∧ Below w.heap.size w w'
theorem own_more {B : Nat} {w : World} {v : Value} {ps : List (List UInt8)} {p : List UInt8} (h : w.ownsRow B 9 1 v (ps.length + 1) (ps.map (Value.string ∘ str) ++ [.string (str p)])) : StrsOwn B w v ((ps ++ [p]).map str) := by
  unfold StrsOwn
  simpa using h
theorem grewS {w wr w1 : World} {v : Value} {ts : List ByteArray} {o : Obj} (hB : Below w.heap.size w wr) (hown : StrsOwn w.heap.size wr v ts) (hg : (wr.alloc o).grownBy w1 v.ownBlock) : Below w.heap.size w w1 := grew hB hown hg

theorem below_grown {w w' : World} (h : Below w.heap.size w w') : w.grownBy w' none := ⟨h.os, h.tape, h.output, h.size, fun k hk _ => h.block k hk⟩
theorem own_below {B : Nat} {w w' : World} {v : Value} {ts : List ByteArray} (h : StrsOwn B w v ts) (hb : Below w.heap.size w w') : StrsOwn B w' v ts :=
  World.ownsRow.kept h (below_grown hb) (by cases v.ownBlock <;> simp)

set_option maxRecDepth 100000 in
set_option maxHeartbeats 4000000 in
theorem whole_any (s : ByteArray) (hs : s.size ≤ 1000000) (w : World) :
    Calls Try.prog 15 #[.string s] w (WholeOf s w) := by
  obtain ⟨i0, hi, hz0, hz1, hz2⟩ := info_parts info_str
  go_enter Try.func15, Try.ntmps15
  go_wp2_with fail
  go_loopw [2, 3] (fun v p wr => ∃ (ps : List (List UInt8)) (n : Nat), p = .int .i64 n ∧ Chain s.data.toList 0 ps n ∧ StrsOwn w.heap.size wr v (ps.map str) ∧ Below w.heap.size w wr) (fun _ p _ => s.size + 1 - (intOf p).toNat)
  case atStart => exact ⟨[], 0, rfl, rfl, own_nil _ _, Below.refl _ _⟩
  case round =>
    obtain ⟨ps, n, rfl, hC, hown, hB⟩ := hrel
    have hBs := hB.size
    have hce := chain_end hC (Nat.zero_le _)
    rw [bytes_len] at hce
    cases hx : nextL s.data.toList n with
    | none =>
      have HX := Lib.hid (next_no hs hx)
      have HW : Hid (WholeL s.data.toList ps n) := ⟨hC, hx⟩
      have HO := Lib.hid hown
      clear hC hx hown
      go_wp2_with fail
      refine (HX.out _).mono ?_
      rintro e w1 ⟨rfl, b1⟩
      go_wp2
      go_ret2
      exact ⟨ps, n, _, rfl, HW.out, own_below HO.out b1, hB.trans (b1.mono hBs)⟩
    | some x =>
      obtain ⟨p, m⟩ := x
      have HX := Lib.hid (next_yes hs hx)
      have HC := Lib.hid (chain_snoc hC hx)
      obtain ⟨_, _, hm, hml, _⟩ := frame_next hx
      have hfs := (frame_size p).1
      rw [Int.toNat_natCast] at hm
      rw [bytes_len] at hml
      have hown0 := Lib.hid hown
      have hmn : n < m := by omega
      clear hC hx hown hm
      go_wp2_with fail
      refine (HX.out _).mono ?_
      rintro e w1 ⟨rfl, b1⟩
      have hB1 := hB.trans (b1.mono hBs)
      have hown1 := own_below hown0.out b1
      have HO := Lib.hid hown1
      have hsz : (ps.map str).length ≤ 1000000 := by rw [List.length_map]; omega
      have hBs1 := hB1.size
      unfold StrsOwn at hown1
      go_wp2_with (at_builtin; refine wpList_append_own _ rfl _ _ 30 rfl w.heap.size 9 i0 (.string ByteArray.empty) 1 16 Try.underlying30 hi hz0 hz1 hz2 rfl (by decide) _ _ _ rfl (hown1.alloc _) ⟨w1.heap.size, 0, none⟩ 1 1 [.string (str p)] rfl rfl (new_at _ _ _) (one_str _) (by unfold maxLen; omega) (by omega) (by simp; omega) ?_)
      intro v' w2 hown2 hgr _
      have hB2 := grewS hB1 HO.out hgr
      have HO2 := Lib.hid (own_more hown2)
      clear hown1 hown2 hgr
      go_wp2
      go_roundw
      case rel => exact ⟨ps ++ [p], m, rfl, HC.out, HO2.out, hB2⟩
      case measure => simp [intOf]; omega

set_option maxRecDepth 100000 in
set_option maxHeartbeats 4000000 in
theorem refWhole_any (s : ByteArray) (hs : s.size ≤ 1000000) (w : World) :
    Calls Try.prog 16 #[.string s] w (WholeOf s w) := by
  obtain ⟨i0, hi, hz0, hz1, hz2⟩ := info_parts info_str
  go_enter Try.func16, Try.ntmps16
  go_wp2_with fail
  go_loopw [4, 5] (fun v p wr => ∃ (ps : List (List UInt8)) (n : Nat), p = .int .i64 n ∧ Chain s.data.toList 0 ps n ∧ StrsOwn w.heap.size wr v (ps.map str) ∧ Below w.heap.size w wr) (fun _ p _ => s.size + 1 - (intOf p).toNat)
  case atStart => exact ⟨[], 0, rfl, rfl, own_nil _ _, Below.refl _ _⟩
  case round =>
    obtain ⟨ps, n, rfl, hC, hown, hB⟩ := hrel
    have hBs := hB.size
    have hce := chain_end hC (Nat.zero_le _)
    rw [bytes_len] at hce
    cases hx : nextL s.data.toList n with
    | none =>
      have HX := Lib.hid (refNext_no hs hx)
      have HW : Hid (WholeL s.data.toList ps n) := ⟨hC, hx⟩
      have HO := Lib.hid hown
      clear hC hx hown
      go_wp2_with fail
      refine (HX.out _).mono ?_
      rintro e w1 ⟨rfl, b1⟩
      go_wp2
      go_ret2
      exact ⟨ps, n, _, rfl, HW.out, own_below HO.out b1, hB.trans (b1.mono hBs)⟩
    | some x =>
      obtain ⟨p, m⟩ := x
      have HX := Lib.hid (refNext_yes hs hx)
      have HC := Lib.hid (chain_snoc hC hx)
      obtain ⟨_, _, hm, hml, _⟩ := frame_next hx
      have hfs := (frame_size p).1
      rw [Int.toNat_natCast] at hm
      rw [bytes_len] at hml
      have hown0 := Lib.hid hown
      have hmn : n < m := by omega
      clear hC hx hown hm
      go_wp2_with fail
      refine (HX.out _).mono ?_
      rintro e w1 ⟨rfl, b1⟩
      have hB1 := hB.trans (b1.mono hBs)
      have hown1 := own_below hown0.out b1
      have HO := Lib.hid hown1
      have hsz : (ps.map str).length ≤ 1000000 := by rw [List.length_map]; omega
      have hBs1 := hB1.size
      unfold StrsOwn at hown1
      go_wp2_with (at_builtin; refine wpList_append_own _ rfl _ _ 30 rfl w.heap.size 9 i0 (.string ByteArray.empty) 1 16 Try.underlying30 hi hz0 hz1 hz2 rfl (by decide) _ _ _ rfl (hown1.alloc _) ⟨w1.heap.size, 0, none⟩ 1 1 [.string (str p)] rfl rfl (new_at _ _ _) (one_str _) (by unfold maxLen; omega) (by omega) (by simp; omega) ?_)
      intro v' w2 hown2 hgr _
      have hB2 := grewS hB1 HO.out hgr
      have HO2 := Lib.hid (own_more hown2)
      clear hown1 hown2 hgr
      go_wp2
      go_roundw
      case rel => exact ⟨ps ++ [p], m, rfl, HC.out, HO2.out, hB2⟩
      case measure => simp [intOf]; omega

end Go.Proofs.Ytcgiceebcombeaa
