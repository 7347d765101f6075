/- The contracts of the marks of lists: PutAll, the program's and the reference's; the examples (works). -/
import Derived.Test.YtadhfaefcdihgaaC1e
namespace Go.Proofs.Ytadhfaefcdihgaa
open Go.RowKit

/-- The bytes of the first k ints' marks, behind the mark of how many there are. -/
def putK (l : List Int) (k : Nat) : List UInt8 := Marks.put l.length ++ ((l.take k).map Marks.put).flatten
def putL (l : List Int) : List UInt8 := putK l l.length
theorem putK_zero (l : List Int) : putK l 0 = Marks.put l.length := by unfold putK; simp
theorem putK_succ (l : List Int) (k : Nat) (h : k < l.length) : putK l (k + 1) = putK l k ++ Marks.put l[k] := by
  unfold putK
  rw [List.take_succ_eq_append_getElem h]
  simp only [List.map_append, List.flatten_append, List.map_cons, List.map_nil, List.flatten_cons, List.flatten_nil, List.append_nil, List.append_assoc]
theorem putK_len (l : List Int) (k : Nat) : (putK l k).length ≤ 10 + 10 * k := by
  unfold putK
  rw [List.length_append]
  have h1 := (Marks.put_len (l.length : Int)).2
  have h2 : ∀ m : List Int, ((m.map Marks.put).flatten).length ≤ 10 * m.length := by
    intro m
    induction m with
    | nil => simp
    | cons x m ih =>
      have := (Marks.put_len x).2
      simp only [List.map_cons, List.flatten_cons, List.length_append, List.length_cons]
      omega
  have h3 := h2 (l.take k)
  have h4 : (l.take k).length ≤ k := List.length_take_le _ _
  omega
theorem putL_nil : putL [] = Marks.put 0 := by unfold putL putK; simp

set_option maxRecDepth 100000 in
set_option maxHeartbeats 1000000 in
theorem putAll_any (l : List Int) (hl : l.length ≤ 1000000) (hi : InI64 l) (v : Value) (w : World) (hv : IntsAt .i64 w v l) :
    Calls Try.prog 20 #[v] w fun e w' => e = .returned (.string (str (putL l))) ∧ Below w.heap.size w w' := by
  obtain ⟨a, cap, rfl, hc⟩ := hv
  by_cases hne : l = []
  · subst hne
    clear hc hi hl
    have HP := Lib.hid (put_any 0 (by omega) (by omega))
    go_enter Try.func20, Try.ntmps20
    go_wp2_with fail
    refine (HP.out _).mono ?_
    rintro e w1 ⟨rfl, hb⟩
    go_wp2
    refine wp_loop_rounds 1 ?_
    rw [rounds_succ]
    go_wp2
    go_ret
    exact ⟨by rw [putL_nil]; rfl, hb⟩
  · obtain ⟨b, off, rfl, hbs, hcell⟩ := hc hne
    clear hc hne
    have HP := Lib.hid (put_any (l.length : Int) (by omega) (by omega))
    have HC := Lib.hid hcell
    have HI := Lib.hid hi
    clear hcell hi
    go_enter Try.func20, Try.ntmps20
    go_wp2_with fail
    refine (HP.out _).mono ?_
    rintro e w1 ⟨rfl, hb⟩
    go_wp2
    go_loopw [3, 11] (fun q p wr => ∃ k : Nat, k ≤ l.length ∧ p = .int .i64 k ∧ q = .string (str (putK l k)) ∧ Below w.heap.size w wr) (fun _ p _ => l.length - (intOf p).toNat)
    case atStart => exact ⟨0, Nat.zero_le _, rfl, by rw [putK_zero], hb⟩
    case round =>
      obtain ⟨k, hk, rfl, rfl, hB⟩ := hrel
      by_cases hlt : k < l.length
      · have hx := (hB.cell (p := ⟨b, off + k, none⟩) hbs).trans (HC.out k hlt)
        obtain ⟨n0, n1⟩ := HI.out l[k] (List.getElem_mem hlt)
        have HS := Lib.hid (putK_succ l k hlt)
        have h1 : (str (putK l k)).size ≤ 10 + 10 * k := by rw [str_size]; exact putK_len l k
        have HP2 := Lib.hid (put_any l[k] n0 n1)
        have h2 : (str (Marks.put l[k])).size ≤ 10 := by rw [str_size]; exact (Marks.put_len _).2
        generalize hxx : l[k] = x at *
        clear hxx n0 n1
        go_wp2_with fail
        refine (HP2.out _).mono ?_
        rintro e w2 ⟨rfl, hb2⟩
        go_wp2
        go_roundw
        case rel => exact ⟨k + 1, by omega, by go_num, by rw [str_append, HS.out], hB.trans (hb2.mono hB.size)⟩
        case measure => simp [intOf]; omega
      · obtain rfl : k = l.length := by omega
        go_wp2
        go_ret
        exact ⟨rfl, hB⟩

set_option maxRecDepth 100000 in
set_option maxHeartbeats 1000000 in
theorem refPutAll_any (l : List Int) (hl : l.length ≤ 1000000) (hi : InI64 l) (v : Value) (w : World) (hv : IntsAt .i64 w v l) :
    Calls Try.prog 21 #[v] w fun e w' => e = .returned (.string (str (putL l))) ∧ Below w.heap.size w w' := by
  obtain ⟨a, cap, rfl, hc⟩ := hv
  by_cases hne : l = []
  · subst hne
    clear hc hi hl
    have HP := Lib.hid (refPut_any 0 (by omega) (by omega))
    go_enter Try.func21, Try.ntmps21
    go_wp2_with fail
    refine (HP.out _).mono ?_
    rintro e w1 ⟨rfl, hb⟩
    go_wp2
    refine wp_loop_rounds 1 ?_
    rw [rounds_succ]
    go_wp2
    go_ret
    exact ⟨by rw [putL_nil]; rfl, hb⟩
  · obtain ⟨b, off, rfl, hbs, hcell⟩ := hc hne
    clear hc hne
    have HP := Lib.hid (refPut_any (l.length : Int) (by omega) (by omega))
    have HC := Lib.hid hcell
    have HI := Lib.hid hi
    clear hcell hi
    go_enter Try.func21, Try.ntmps21
    go_wp2_with fail
    refine (HP.out _).mono ?_
    rintro e w1 ⟨rfl, hb⟩
    go_wp2
    go_loopw [3, 4] (fun q p wr => ∃ k : Nat, k ≤ l.length ∧ p = .int .i64 k ∧ q = .string (str (putK l k)) ∧ Below w.heap.size w wr) (fun _ p _ => l.length - (intOf p).toNat)
    case atStart => exact ⟨0, Nat.zero_le _, rfl, by rw [putK_zero], hb⟩
    case round =>
      obtain ⟨k, hk, rfl, rfl, hB⟩ := hrel
      by_cases hlt : k < l.length
      · have hx := (hB.cell (p := ⟨b, off + k, none⟩) hbs).trans (HC.out k hlt)
        obtain ⟨n0, n1⟩ := HI.out l[k] (List.getElem_mem hlt)
        have HS := Lib.hid (putK_succ l k hlt)
        have h1 : (str (putK l k)).size ≤ 10 + 10 * k := by rw [str_size]; exact putK_len l k
        have HP2 := Lib.hid (refPut_any l[k] n0 n1)
        have h2 : (str (Marks.put l[k])).size ≤ 10 := by rw [str_size]; exact (Marks.put_len _).2
        generalize hxx : l[k] = x at *
        clear hxx n0 n1
        go_wp2_with fail
        refine (HP2.out _).mono ?_
        rintro e w2 ⟨rfl, hb2⟩
        go_wp2
        go_roundw
        case rel => exact ⟨k + 1, by omega, by go_num, by rw [str_append, HS.out], hB.trans (hb2.mono hB.size)⟩
        case measure => simp [intOf]; omega
      · obtain rfl : k = l.length := by omega
        go_wp2
        go_ret
        exact ⟨rfl, hB⟩

theorem intsAt_alloc (w : World) (l : List Int) (C : Array Value) (t : TypeId) (cap : Nat) (h : ∀ j (h : j < l.length), C[j]? = some (.int .i64 l[j])) : IntsAt .i64 (w.alloc (.cells C t)) (.slice (some ⟨w.heap.size, 0, none⟩) l.length cap) l := by
  refine ⟨_, cap, rfl, fun _ => ⟨w.heap.size, 0, rfl, by simp, fun j hj => ?_⟩⟩
  rw [World.cell?_alloc_mark, Nat.zero_add]
  exact h j hj

theorem put_lit (n : Int) (l : List UInt8) (h0 : -9223372036854775808 ≤ n) (h1 : n ≤ 9223372036854775807) (h : Marks.put n = l) (w : World) :
    Calls Try.prog 11 #[.int .i64 n] w fun e w' => e = .returned (.string ⟨l.toArray⟩) ∧ Below w.heap.size w w' := by
  rw [← h]; exact put_any n h0 h1 w

set_option maxRecDepth 100000 in
set_option maxHeartbeats 1000000 in
theorem works_any (w : World) : Calls Try.prog 13 #[] w fun e w' => e = .returned (.bool true) ∧ Below w.heap.size w w' := by
  have G1 := Lib.hid (get_yes (s := ⟨#[216, 4, 9]⟩) (a := 0) (n := 300) (m := 2) (by decide +kernel) (by decide +kernel))
  have G2 := Lib.hid (get_yes (s := ⟨#[216, 4, 9]⟩) (a := 2) (n := -5) (m := 3) (by decide +kernel) (by decide +kernel))
  have G3 := Lib.hid (get_no (s := ⟨#[128, 0]⟩) (a := 0) (by decide +kernel) (by decide +kernel))
  have P1 := Lib.hid (put_lit 300 [216, 4] (by decide) (by decide) (by decide +kernel))
  have P2 := Lib.hid (put_lit (-1) [1] (by decide) (by decide) (by decide +kernel))
  have P3 := Lib.hid (putText_any ⟨#[97, 98, 99]⟩ (by decide +kernel))
  have e3 : str (putT [97, 98, 99]) = ⟨#[6, 97, 98, 99]⟩ := by decide +kernel
  have E3 := Lib.hid e3
  have e4 : str (putL [1, -1]) = ⟨#[4, 2, 1]⟩ := by decide +kernel
  have E4 := Lib.hid e4
  clear e3 e4
  go_enter Try.func13, Try.ntmps13
  go_wp2_with fail
  refine (G1.out _).mono ?_
  rintro e w1 ⟨rfl, rfl⟩
  go_wp2_with fail
  refine (G2.out _).mono ?_
  rintro e w1 ⟨rfl, rfl⟩
  go_wp2_with fail
  refine (G3.out _).mono ?_
  rintro e w1 ⟨rfl, rfl⟩
  go_wp2_with fail
  refine (P1.out _).mono ?_
  rintro e w1 ⟨rfl, hb1⟩
  go_wp2_with fail
  refine (P2.out _).mono ?_
  rintro e w2 ⟨rfl, hb2⟩
  go_wp2_with fail
  refine (P3.out _).mono ?_
  rintro e w3 ⟨rfl, hb3⟩
  rw [E3.out]
  have hc2 := hb1.trans (hb2.mono hb1.size)
  have hc3 := hc2.trans (hb3.mono hc2.size)
  clear hb1 hb2 hb3 hc2
  go_wp2_with fail
  refine (putAll_any [1, -1] (by decide) (by intro n hn; simp at hn; omega) _ _ (intsAt_alloc w3 [1, -1] _ 3 2 (by intro j hj; match j, hj with | 0, _ => rfl | 1, _ => rfl))).mono ?_
  rintro e w4 ⟨rfl, hb4⟩
  rw [E4.out]
  go_wp2
  go_ret
  exact ⟨rfl, (hc3.alloc hc3.size _).trans (hb4.mono (by have := hc3.size; simp; omega))⟩
end Go.Proofs.Ytadhfaefcdihgaa
