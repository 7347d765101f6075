/- Payloads framed one behind the other: plain, and the contract of the law's framed. -/
import Derived.Test.YtcgiceebcombeaaC3h
namespace Go.Proofs.Ytcgiceebcombeaa
open Go.RowKit

/-- The frames of some payloads, one behind the other. -/
def allF (ts : List ByteArray) : List UInt8 := ts.flatMap fun t => frameL t.data.toList
theorem all_snoc (ts : List ByteArray) (t : ByteArray) : allF (ts ++ [t]) = allF ts ++ frameL t.data.toList := by simp [allF]
theorem all_app (a b : List ByteArray) : allF (a ++ b) = allF a ++ allF b := by simp [allF]
theorem all_take (ts : List ByteArray) (k : Nat) (hk : k < ts.length) : allF (ts.take (k + 1)) = allF (ts.take k) ++ frameL ts[k].data.toList := by
  rw [List.take_succ_eq_append_getElem hk, all_snoc]
theorem all_part (ts : List ByteArray) (k : Nat) (hk : k < ts.length) : ∃ y, allF ts = allF (ts.take k) ++ (frameL ts[k].data.toList ++ y) := by
  refine ⟨allF (ts.drop (k + 1)), ?_⟩
  rw [← List.append_assoc, ← all_take ts k hk, ← all_app, List.take_append_drop]
def Little (ts : List ByteArray) : Prop := ∀ t ∈ ts, t.size ≤ 1000
theorem little_take {ts : List ByteArray} (h : Little ts) (k : Nat) : Little (ts.take k) := fun t ht => h t (List.mem_of_mem_take ht)
theorem all_len : ∀ (ts : List ByteArray), Little ts → (allF ts).length ≤ 1014 * ts.length
  | [], _ => by simp [allF]
  | t :: ts, h => by
    have h1 := all_len ts (fun x hx => h x (by simp [hx]))
    have h2 := (frame_size t.data.toList).2
    have h3 := h t (by simp)
    rw [bytes_len] at h2
    have e : allF (t :: ts) = frameL t.data.toList ++ allF ts := rfl
    rw [e, List.length_append, List.length_cons]
    omega
theorem all_next {ts : List ByteArray} (hl : Little ts) (k : Nat) (hk : k < ts.length) : nextL (allF ts) ((allF (ts.take k)).length : Nat) = some (ts[k].data.toList, (allF (ts.take (k + 1))).length) := by
  obtain ⟨y, hy⟩ := all_part ts k hk
  have h1 := hl _ (List.getElem_mem hk)
  rw [hy, next_frame _ _ _ (by rw [bytes_len]; omega), all_take ts k hk, List.length_append]
theorem chain_frames : ∀ (ts : List ByteArray), Little ts → ∀ (x y : List UInt8), Chain (x ++ (allF ts ++ y)) x.length (ts.map fun t => t.data.toList) (x.length + (allF ts).length)
  | [], _, x, y => by simp [Chain, allF]
  | t :: ts, h, x, y => by
    have h1 := h t (by simp)
    have ih := chain_frames ts (fun u hu => h u (by simp [hu])) (x ++ frameL t.data.toList) y
    have e : allF (t :: ts) = frameL t.data.toList ++ allF ts := rfl
    refine ⟨x.length + (frameL t.data.toList).length, ?_, ?_⟩
    · rw [e, List.append_assoc]
      exact next_frame _ _ _ (by rw [bytes_len]; omega)
    · rw [e, List.append_assoc, ← List.append_assoc x]
      rw [List.length_append] at ih ⊢
      rw [← Nat.add_assoc]
      exact ih
theorem whole_frames {ts : List ByteArray} (h : Little ts) : WholeL (allF ts) (ts.map fun t => t.data.toList) (allF ts).length := by
  have := chain_frames ts h [] []
  rw [List.append_nil, List.nil_append, List.length_nil, Nat.zero_add] at this
  exact ⟨this, next_end _⟩
theorem map_back (ts : List ByteArray) : (ts.map fun t => t.data.toList).map str = ts := by
  rw [List.map_map]
  exact (List.map_congr_left (fun t _ => str_self t)).trans (List.map_id ts)

/-- Where each ends, up to the k-th. -/
def endsRow (ts : List ByteArray) (k : Nat) : List Value := (List.range k).map fun j => .int .i64 ((allF (ts.take (j + 1))).length : Nat)
theorem ends_more (ts : List ByteArray) (k : Nat) : endsRow ts k ++ [.int .i64 ((allF (ts.take (k + 1))).length : Nat)] = endsRow ts (k + 1) := by simp [endsRow, List.range_succ]
theorem ends_get (ts : List ByteArray) (k j : Nat) (h : j < k) : (endsRow ts k)[j]? = some (.int .i64 ((allF (ts.take (j + 1))).length : Nat)) := by simp [endsRow, h]
theorem info_int : (Try.prog.info? 3).map (fun i => (i.zero, i.size, i.bytes)) = some (some (.int .i64 0), 1, 8) := by kernel_rfl
/-- The ends, in memory: a slice value. -/
def EndsAt (w : World) (v : Value) (ts : List ByteArray) : Prop :=
  ∃ (a : Option Addr) (cap : Nat), v = .slice a ts.length cap ∧ (ts ≠ [] → ∃ g, a = some ⟨g, 0, none⟩ ∧ g < w.heap.size ∧ ∀ j, j < ts.length → w.cell? ⟨g, j, none⟩ = some (.int .i64 ((allF (ts.take (j + 1))).length : Nat)))
theorem EndsAt.below {w w' : World} {v : Value} {ts : List ByteArray} (h : EndsAt w v ts) (hb : Below w.heap.size w w') : EndsAt w' v ts := by
  obtain ⟨a, cap, hv, hc⟩ := h
  refine ⟨a, cap, hv, fun hl => ?_⟩
  obtain ⟨g, ha, hlt, hcell⟩ := hc hl
  exact ⟨g, ha, Nat.lt_of_lt_of_le hlt hb.size, fun j hj => (hb.cell (p := ⟨g, j, none⟩) hlt).trans (hcell j hj)⟩
theorem ends_own {B : Nat} {w : World} {v : Value} {ts : List ByteArray} (h : w.ownsRow B 3 1 v ts.length (endsRow ts ts.length)) : EndsAt w v ts := by
  obtain ⟨_, h⟩ := h
  rcases h with ⟨hv, h0⟩ | ⟨g, cap, cur, rfl, hb, hh, hn, hc, hs, ht⟩
  · exact ⟨none, 0, by rw [hv, h0], fun hne => absurd (List.eq_nil_of_length_eq_zero h0) hne⟩
  · refine ⟨some ⟨g, 0, none⟩, cap, rfl, fun _ => ⟨g, rfl, (Array.getElem?_eq_some_iff.1 hh).1, fun j hj => ?_⟩⟩
    have h1 : cur.toList[j]? = some (.int .i64 ((allF (ts.take (j + 1))).length : Nat)) := by
      have h2 : (cur.toList.take (ts.length * 1))[j]? = some (.int .i64 ((allF (ts.take (j + 1))).length : Nat)) := by rw [ht]; exact ends_get _ _ _ hj
      rw [List.getElem?_take_of_lt (by omega)] at h2
      exact h2
    simp only [World.cell?, hh]
    simpa using h1
theorem owns_below {w w' : World} {B n sz : Nat} {e : TypeId} {v : Value} {xs : List Value} (h : w.ownsRow B e sz v n xs) (hb : Below w.heap.size w w') : w'.ownsRow B e sz v n xs :=
  World.ownsRow.kept h (below_grown hb) (by cases v.ownBlock <;> simp)
/-- What framed answers. -/
def FramedOf (ts : List ByteArray) (w : World) (e : Ending) (w' : World) : Prop :=
  Below w.heap.size w w' ∧ ((ts.length ≤ 40 ∧ Little ts ∧ ∃ v, e = .returned (.tuple #[.string (str (allF ts)), v, .bool true]) ∧ EndsAt w' v ts) ∨
    (¬ (ts.length ≤ 40 ∧ Little ts) ∧ e = .returned (.tuple #[.string ⟨#[]⟩, .slice none 0 0, .bool false])))

set_option maxRecDepth 100000 in
set_option maxHeartbeats 4000000 in
theorem framed_any {v : Value} {ts : List ByteArray} {w : World} (hv : StrsAt w v ts) : Calls Try.prog 18 #[v] w (FramedOf ts w) := by
  obtain ⟨i0, hi, hz0, hz1, hz2⟩ := info_parts info_int
  obtain ⟨av, cv, rfl, hc⟩ := hv
  have HC := Lib.hid hc
  clear hc
  by_cases h40 : ts.length ≤ 40
  · have d1 : decide ((40 : Int) < (ts.length : Int)) = false := by rw [decide_eq_false_iff_not]; omega
    go_enter Try.func18, Try.ntmps18
    go_wp2_with fail
    go_loopw [5, 6, 7] (fun s v p wr => ∃ k : Nat, k ≤ ts.length ∧ p = .int .i64 k ∧ s = .string (str (allF (ts.take k))) ∧ wr.ownsRow w.heap.size 3 1 v k (endsRow ts k) ∧ Below w.heap.size w wr ∧ Little (ts.take k)) (fun _ _ p _ => ts.length - (intOf p).toNat)
    case atStart => exact ⟨0, by omega, rfl, rfl, World.ownsRow_nil _ _ _ _, Below.refl _ _, fun t ht => by simp at ht⟩
    case round =>
      obtain ⟨k, hk, rfl, rfl, hown, hB, hL⟩ := hrel
      have hBs := hB.size
      by_cases hlt : k < ts.length
      · obtain ⟨b, off, rfl, hbl, hcell⟩ := HC.out (fun h => by rw [h] at hlt; simp at hlt)
        have hx : wr.cell? ⟨b, off + k, none⟩ = some (.string ts[k]) := (hB.cell (p := ⟨b, off + k, none⟩) hbl).trans (hcell k hlt)
        have hal := all_len _ hL
        rw [List.length_take] at hal
        have hasz : (str (allF (ts.take k))).size ≤ 40560 := by rw [str_size]; omega
        have HT := Lib.hid (all_take ts k hlt)
        have HM := Lib.hid (show ts[k] ∈ ts from List.getElem_mem hlt)
        have HTk := Lib.hid (show ts.take (k + 1) = ts.take k ++ [ts[k]] from List.take_succ_eq_append_getElem hlt)
        generalize ts[k] = t at *
        have HLk := Lib.hid hL
        clear hcell hL
        by_cases ht : t.size ≤ 1000
        · have HF := Lib.hid (frame_yes t (by omega))
          have HS := Lib.hid (show str (allF (ts.take k)) ++ str (frameL t.data.toList) = str (allF (ts.take (k + 1))) by rw [HT.out, str_append])
          have hfz : (str (frameL t.data.toList)).size ≤ 1014 := by rw [str_size]; have := (frame_size t.data.toList).2; rw [bytes_len] at this; omega
          generalize str (frameL t.data.toList) = f at *
          have HO := Lib.hid hown
          clear hown
          go_wp2_with fail
          refine (HF.out _).mono ?_
          rintro e w1 ⟨rfl, b1⟩
          have hB1 := hB.trans (b1.mono hBs)
          have hBs1 := hB1.size
          have hown1 := owns_below HO.out b1
          have HZ := Lib.hid (show (((str (allF (ts.take k))).size : Nat) : Int) + f.size = ((allF (ts.take (k + 1))).length : Nat) by rw [← str_size (allF (ts.take (k + 1))), ← HS.out, ByteArray.size_append]; omega)
          clear hB
          go_wp2_with (at_builtin; refine wpList_append_own _ rfl _ _ 34 rfl w.heap.size 3 i0 (.int .i64 0) 1 8 Try.underlying34 hi hz0 hz1 hz2 rfl (by decide) _ _ _ rfl (hown1.alloc _) ⟨w1.heap.size, 0, none⟩ 1 1 [.int .i64 (((str (allF (ts.take k))).size : Nat) + (f.size : Nat))] rfl rfl (new_at _ _ _) (one_int _ _) (by unfold maxLen; omega) (by omega) (by simp; omega) ?_)
          intro v' w2 hown2 hgr _
          have hB2 := grew hB1 hown1 hgr
          rw [HZ.out, ends_more] at hown2
          have HO2 := Lib.hid hown2
          have HL2 : Hid (Little (ts.take (k + 1))) := by
            rw [HTk.out]
            intro x hx
            rcases List.mem_append.1 hx with h | h
            · exact HLk.out x h
            · rw [List.mem_singleton.1 h]; exact ht
          clear hown1 hown2 hgr
          go_wp2
          rw [HS.out]
          go_roundw
          case rel => exact ⟨k + 1, by omega, by go_num, rfl, HO2.out, hB2, HL2.out⟩
          case measure => simp [intOf]; omega
        · have HN := Lib.hid (show ¬ (ts.length ≤ 40 ∧ Little ts) from fun h => ht (h.2 t HM.out))
          have d2 : decide ((1000 : Int) < (t.size : Int)) = true := by rw [decide_eq_true_eq]; omega
          clear hown
          go_wp2
          go_ret3
          exact ⟨hB, .inr ⟨HN.out, rfl⟩⟩
      · obtain rfl : k = ts.length := by omega
        rw [List.take_length] at hL
        have HE := Lib.hid (ends_own hown)
        have HL := Lib.hid hL
        have HT := Lib.hid (List.take_length (l := ts))
        clear hown hL
        go_wp2
        rw [HT.out]
        go_ret3
        exact ⟨hB, .inl ⟨h40, HL.out, _, rfl, HE.out⟩⟩
  · have HN := Lib.hid (show ¬ (ts.length ≤ 40 ∧ Little ts) from fun h => h40 h.1)
    go_enter Try.func18, Try.ntmps18
    go_wp2
    go_ret3
    exact ⟨Below.refl _ _, .inr ⟨HN.out, rfl⟩⟩
end Go.Proofs.Ytcgiceebcombeaa
