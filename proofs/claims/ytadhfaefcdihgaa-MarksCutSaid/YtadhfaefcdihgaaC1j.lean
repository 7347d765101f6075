/- The walk of MarksLists. -/
import Derived.Test.YtadhfaefcdihgaaC1i
import Derived.Test.YtadhfaefcdihgaaOpen
import Derived.Laws.AppendOwnNone
import Derived.OwnWalk
namespace Go.Proofs.Ytadhfaefcdihgaa
open Go.RowKit

theorem ints_of_owns {w : World} {B : Nat} {v : Value} {xs : List Int} (h : w.ownsRow B 3 1 v xs.length (xs.map (Value.int .i64))) : IntsAt .i64 w v xs := by
  have h0 := h
  obtain ⟨_, h2⟩ := h
  rcases h2 with ⟨rfl, h3⟩ | ⟨g, cap, cur, rfl, hg, hh, hn, hc, hs, ht⟩
  · exact ⟨none, 0, by rw [h3], fun hne => absurd (List.eq_nil_of_length_eq_zero h3) hne⟩
  · refine ⟨some ⟨g, 0, none⟩, cap, rfl, fun _ => ⟨g, 0, rfl, (Array.getElem?_eq_some_iff.1 hh).1, fun j hj => ?_⟩⟩
    rw [Nat.zero_add, h0.cellAt j (by omega)]
    simp [hj]

/-- Of the world only one block has turned. -/
def Only (g : Nat) (w w' : World) : Prop := w'.os = w.os ∧ w'.tape = w.tape ∧ w'.output = w.output ∧ w.heap.size ≤ w'.heap.size ∧ ∀ k, k ≠ g → w'.heap[k]? = w.heap[k]?
theorem Only.refl (g : Nat) (w : World) : Only g w w := ⟨rfl, rfl, rfl, Nat.le_refl _, fun _ _ => rfl⟩
theorem Only.set {g : Nat} {w w' : World} (h : Only g w w') (o : Nat) (u : Value) : Only g w (w'.setCell ⟨g, o, none⟩ u) :=
  ⟨h.1, h.2.1, h.2.2.1, by have := h.2.2.2.1; simpa [World.setCell] using this, fun k hk => (Below.heap_setCell _ _ _ _ hk).trans (h.2.2.2.2 k hk)⟩
theorem Only.below {g B : Nat} {w w' : World} (h : Only g w w') (hg : B ≤ g) : Below B w w' := ⟨h.1, h.2.1, h.2.2.1, h.2.2.2.1, fun k hk => h.2.2.2.2 k (by omega)⟩
theorem Only.ints {g : Nat} {k : IntKind} {w w' : World} {v : Value} {l : List Int} (h : Only g w w') (hi : IntsAt k w v l) (hg : ∀ b off, (∃ n c, v = .slice (some ⟨b, off, none⟩) n c) → b ≠ g) : IntsAt k w' v l := by
  obtain ⟨a, cap, hv, hc⟩ := hi
  refine ⟨a, cap, hv, fun hl => ?_⟩
  obtain ⟨b, off, ha, hlt, hcell⟩ := hc hl
  subst ha
  exact ⟨b, off, rfl, Nat.lt_of_lt_of_le hlt h.2.2.2.1, fun j hj => (World.cell?_of_block (a := ⟨b, off + j, none⟩) (h.2.2.2.2 b (hg b off ⟨_, _, hv⟩))).trans (hcell j hj)⟩
theorem own_block_ge {w : World} {B : Nat} {e : TypeId} {size n : Nat} {v : Value} {xs : List Value} (h : w.ownsRow B e size v n xs) : ∀ b off, (∃ n c, v = .slice (some ⟨b, off, none⟩) n c) → B ≤ b := by
  rintro b off ⟨m, c, rfl⟩
  exact (h.lt b rfl).1

theorem sameInts_yes (l : List Int) (hl : l.length ≤ 1000000) (u v : Value) (w : World) (hu : IntsAt .i64 w u l) (hv : IntsAt .i64 w v l) :
    Calls Try.prog 22 #[u, v] w fun e w' => e = .returned (.bool true) ∧ Below w.heap.size w w' := by
  have := sameInts_any l l hl u v w hu hv
  simpa using this

theorem two_at (w : World) (x y : Value) (t : TypeId) : ∀ (j : Nat) (u : Value), [x, y][j]? = some u → (w.alloc (.cells #[x, y] t)).cell? ((⟨w.heap.size, 0, none⟩ : Addr).add j) = some u := by
  intro j u h
  match j with
  | 0 => simp at h; subst h; simp [Addr.add]
  | 1 => simp at h; subst h; simp [Addr.add]
  | j + 2 => simp at h
theorem src_at {w : World} {b off : Nat} {l : List Int} (h : ∀ j (h : j < l.length), w.cell? ⟨b, off + j, none⟩ = some (.int .i64 l[j])) : ∀ (j : Nat) (u : Value), (l.map (Value.int .i64))[j]? = some u → w.cell? ((⟨b, off, none⟩ : Addr).add j) = some u := by
  intro j u hu
  rw [List.getElem?_map, Option.map_eq_some_iff] at hu
  obtain ⟨x, hx, rfl⟩ := hu
  obtain ⟨hj, rfl⟩ := List.getElem?_eq_some_iff.1 hx
  have := h j hj
  by_cases e : j = 0
  · subst e; simpa [Addr.add] using this
  · simpa [Addr.add, e] using this
theorem ints_one (l : List Int) : ∀ u ∈ l.map (Value.int .i64), u.oneCell' = true := by
  intro u hu
  obtain ⟨x, _, rfl⟩ := List.mem_map.1 hu
  rfl

theorem two_one (x y : Int) : ∀ u ∈ [Value.int .i64 x, .int .i64 y], u.oneCell' = true := by
  intro u hu
  simp at hu
  rcases hu with rfl | rfl <;> rfl
theorem getK_len (l : List UInt8) (n p : Nat) (xs : List Int) (q : Nat) (h : getK l n p = some (xs, q)) : xs.length = n := by
  induction n generalizing p xs q with
  | zero => simp [getK] at h; rw [h.1]; rfl
  | succ n ih =>
    rw [getK, Option.bind_eq_some_iff] at h
    obtain ⟨x, _, h2⟩ := h
    rw [Option.map_eq_some_iff] at h2
    obtain ⟨y, hy, he⟩ := h2
    cases he
    simp [ih _ _ _ hy]
theorem getA_len (l : List UInt8) (a : Int) (h : l.length ≤ 1000000) : (gotL (getA l a)).length ≤ 1000000 := by
  unfold gotL getA
  cases hg : getC l a with
  | none => simp
  | some x =>
    obtain ⟨n, m⟩ := x
    obtain ⟨_, h1, h2⟩ := getC_some hg
    simp only [Option.bind_some]
    cases hk : getK l n.toNat m with
    | none => simp
    | some y =>
      have := getK_len _ _ _ _ _ hk
      simp only [Option.map_some, Option.getD_some]
      omega
theorem owns_frozen {w w' : World} {B n : Nat} {e : TypeId} {size : Nat} {v : Value} {xs : List Value} (h : w.ownsRow B e size v n xs) (hb : Below w.heap.size w w') :
    ∀ g o j, (∃ m c, v = .slice (some ⟨g, o, none⟩) m c) → w'.frozen? ⟨g, j, none⟩ = false := by
  rintro g o j ⟨m, c, rfl⟩
  have hlt := (h.lt g rfl).2
  refine (hb.frozen (p := ⟨g, j, none⟩) hlt).trans ?_
  rcases h.2 with ⟨h1, _⟩ | ⟨g', cap, cur, h1, h2, hh, _⟩
  · cases h1
  · cases h1
    simp [World.frozen?, hh]
theorem only_cells {w : World} {g o k n : Nat} {y : Int} {u : Int} (h : ∀ j, j < n → ∃ y : Int, w.cell? ⟨g, o + j, none⟩ = some (.int .i64 y)) (hy : w.cell? ⟨g, o + k, none⟩ = some (.int .i64 y)) :
    ∀ j, j < n → ∃ y : Int, (w.setCell ⟨g, o + k, none⟩ (.int .i64 u)).cell? ⟨g, o + j, none⟩ = some (.int .i64 y) := by
  intro j hj
  by_cases e : j = k
  · subst e
    exact ⟨u, World.cell?_setCell_same' _ _ _ (by rw [hy]; rfl)⟩
  · obtain ⟨z, hz⟩ := h j hj
    exact ⟨z, by rw [World.cell?_setCell_other _ _ _ _ (by simp)]; exact hz⟩

theorem owns_zero2 {w : World} {B : Nat} {v x y : Value} {l : List Int} (h : w.ownsRow B 3 1 v 2 [x, y]) (hl : l = []) : w.ownsRow B 3 1 v (l.length + 2) (l.map (Value.int .i64) ++ [x, y]) := by
  subst hl; exact h

/-- The copy: its cells, the two behind it, its room. -/
theorem copy_cells {w : World} {B : Nat} {v : Value} {l : List Int} (h : w.ownsRow B 3 1 v (l.length + 2) (l.map (Value.int .i64) ++ [.int .i64 (-70), .int .i64 (-71)])) :
    ∃ g cap, v = .slice (some ⟨g, 0, none⟩) (l.length + 2) cap ∧ B ≤ g ∧ g < w.heap.size ∧ l.length + 2 ≤ cap ∧ IntsAt .i64 w (.slice (some ⟨g, 0, none⟩) l.length cap) l ∧
      w.cell? ⟨g, l.length, none⟩ = some (.int .i64 (-70)) ∧ w.cell? ⟨g, l.length + 1, none⟩ = some (.int .i64 (-71)) := by
  have h0 := h
  obtain ⟨_, h2⟩ := h
  rcases h2 with ⟨_, h3⟩ | ⟨g, cap, cur, rfl, hg, hh, hn, hc, hs, ht⟩
  · omega
  · have hlt := (Array.getElem?_eq_some_iff.1 hh).1
    refine ⟨g, cap, rfl, hg, hlt, hn, ⟨_, cap, rfl, fun _ => ⟨g, 0, rfl, hlt, fun j hj => ?_⟩⟩, ?_, ?_⟩
    · rw [Nat.zero_add, h0.cellAt j (by omega), List.getElem?_append_left (by simpa using hj)]
      simp [hj]
    · rw [h0.cellAt _ (by omega), List.getElem?_append_right (by simp)]; simp
    · rw [h0.cellAt _ (by omega), List.getElem?_append_right (by simp)]; simp

set_option maxRecDepth 100000 in
set_option maxHeartbeats 4000000 in
theorem marksLists_walk (l : List Int) (v : Value) (s : ByteArray) (a : Int) (hl : ∀ n ∈ l, (Lit.int .i64 n).wf = true) (_hs : s.size ≤ maxLen) (_ha : (Lit.int .i64 a).wf = true) (w : World) (hv : IntsIn .i64 w v l) :
    Calls Try.prog 9 #[v, .string s, .int .i64 a] w fun e w' => e = .returned (.bool true) ∧ Below w.heap.size w w' := by
  have hi64 : InI64 l := fun n hn => ⟨i64_lo (hl n hn), i64_hi (hl n hn)⟩
  clear hl
  obtain ⟨hv0, hnil⟩ := hv
  have hv := hv0
  obtain ⟨ad, cap, rfl, hc⟩ := hv
  by_cases hk : l.length ≤ 500
  · by_cases hz : s.size ≤ 5000
    · obtain ⟨i0, hi, hz0, hz1, hz2⟩ := info_parts info_int
      have HI := Lib.hid hi64
      have HV := Lib.hid hv0
      clear hi64 hv0
      have hl8 : l.length ≤ 1000000 := by omega
      have hs8 : s.size ≤ 1000000 := by omega
      generalize hga : getA s.data.toList a = o
      have GA := Lib.hid (fun w => getAll_any s hs8 a w)
      have RA := Lib.hid (fun w => refGetAll_any s hs8 a w)
      rw [hga] at GA RA
      have hgl : (gotL o).length ≤ 1000000 := by
        rw [← hga]
        exact getA_len s.data.toList a (by rw [bytes_len]; exact hs8)
      clear hga
      generalize hLL : gotL o = xs at *
      have HLL := Lib.hid hLL
      generalize gotLX o = px at *
      generalize o.isSome = ob at *
      have d1 : decide ((500 : Int) < (l.length : Int)) = false := by rw [decide_eq_false_iff_not]; omega
      have d2 : decide ((5000 : Int) < (s.size : Int)) = false := by rw [decide_eq_false_iff_not]; omega
      cases ad with
      | none =>
        have hl0 : l = [] := Classical.byContradiction fun h => by
          obtain ⟨b, off, h1, _⟩ := hc h
          cases h1
        have hcap : cap = 0 := hnil _ _ rfl
        subst hcap
        have HL0 := Lib.hid hl0
        clear hc hl0 hnil
        go_enter Try.func9, Try.ntmps9
        go_wp2_with (at_make; refine wpList_make_own _ rfl _ _ 34 rfl w.heap.size 3 i0 (.int .i64 0) 1 Try.underlying34 hi hz0 hz1 _ _ _ (l.length + 2) rfl rfl (by omega) ?b2 ?b3 (Nat.le_refl _) ?_)
        case b2 => rw [hz2]; omega
        case b3 => unfold maxLen; omega
        intro w0 hown0 hgr0
        have hB0 : Below w.heap.size w w0 := (Below.refl _ _).grown hgr0 (Nat.le_refl _) (fun k h => by cases h)
        have hBs0 := hB0.size
        go_wp2_with (first | (at_builtin; refine wpList_append_own_none rfl (.tmp 29) (.tmp 30) 34 rfl w.heap.size 3 i0 1 Try.underlying34 hi _ _ _ rfl hown0 (by show Value.slice none l.length 0 = Value.slice none 0 0; rw [HL0.out]; rfl) ?_) | (at_builtin; refine wpList_append_own _ rfl (.tmp 31) (.tmp 32) 34 rfl w.heap.size 3 i0 (.int .i64 0) 1 8 Try.underlying34 hi hz0 hz1 hz2 rfl (by decide) _ _ _ rfl (hown0.alloc _) ⟨w0.heap.size, 0, none⟩ 2 2 [.int .i64 (-70), .int .i64 (-71)] rfl rfl (two_at _ _ _ _) (two_one _ _) (by unfold maxLen; omega) (by omega) (by simp; omega) ?_))
        intro v2 w2 hown2' hgr2 _
        have hB2 := grew hB0 hown0 hgr2
        have hown2 := owns_zero2 (l := l) hown2' HL0.out
        obtain ⟨g, cap2, rfl, hg1, hg2, hg3, hT, hx, hy⟩ := copy_cells hown2
        have HT := Lib.hid hT
        clear hown0 hgr0 hB0 hBs0 hgr2 hown2 hown2' hT
        go_wp2_with fail
        refine (putAll_any l hl8 HI.out _ _ HT.out).mono ?_
        rintro e w3 ⟨rfl, hb3⟩
        have hB3 := hB2.trans (hb3.mono hB2.size)
        go_wp2_with fail
        refine (refPutAll_any l hl8 HI.out _ _ (HV.out.below hB3)).mono ?_
        rintro e w4 ⟨rfl, hb4⟩
        have hB4 := hB3.trans (hb4.mono hB3.size)
        have hb24 := hb3.trans (hb4.mono hb3.size)
        clear hb3 hb4 hB3
        go_wp2_with fail
        refine (sameInts_yes l hl8 _ _ _ (HT.out.below hb24) (HV.out.below hB4)).mono ?_
        rintro e w5 ⟨rfl, hb5⟩
        have hB5 := hB4.trans (hb5.mono hB4.size)
        have hb25 := hb24.trans (hb5.mono hb24.size)
        have hx5 := (hb25.cell (p := ⟨g, l.length, none⟩) hg2).trans hx
        have hy5 := (hb25.cell (p := ⟨g, l.length + 1, none⟩) hg2).trans hy
        clear hb5 hB4 hb24 hb25 hx hy
        go_wp2_with fail
        refine (GA.out _).mono ?_
        rintro e w6 ⟨v1, rfl, hown1, hb6⟩
        have hB6 := hB5.trans (hb6.mono hB5.size)
        clear hx5 hy5
        go_wp2_with fail
        refine (RA.out _).mono ?_
        rintro e w7 ⟨v2, rfl, hown2, hb7⟩
        have hB7 := hB6.trans (hb7.mono hB6.size)
        rw [HLL.out] at hown1 hown2
        have hm1 := (ints_of_owns hown1).below hb7
        have hm2 := ints_of_owns hown2
        have HD := Lib.hid (own_block_ge hown2)
        have hlt1 := hown1.lt
        have hf1 := owns_frozen hown1 hb7
        have hge1 := own_block_ge hown1
        obtain ⟨a1, c1, rfl, hc1⟩ := hm1
        obtain ⟨a2, c2, rfl, hc2⟩ := hm2
        have HM1 := Lib.hid (show IntsAt .i64 w7 (.slice a1 xs.length c1) xs from ⟨a1, c1, rfl, hc1⟩)
        have HM2 := Lib.hid (show IntsAt .i64 w7 (.slice a2 xs.length c2) xs from ⟨a2, c2, rfl, hc2⟩)
        have h56 := hB5.size
        have h67 := hb6.size
        clear hown1 hown2 hc2 hb6 hB6 hB5
        go_wp2_with fail
        refine (sameInts_yes xs hgl _ _ _ HM1.out HM2.out).mono ?_
        rintro e w8 ⟨rfl, hb8⟩
        have hB8 := hB7.trans (hb8.mono hB7.size)
        have HM2' := Lib.hid (HM2.out.below hb8)
        by_cases hxs : xs = []
        · have hx0 : xs.length ≤ 0 := by rw [hxs]; exact Nat.le_refl _
          have HX := Lib.hid hxs
          clear hxs hc1 hlt1 hf1 hge1 hb7 h56 h67
          go_wp2
          refine wp_loop_rounds 1 ?_
          rw [rounds_succ]
          go_wp2_with fail
          refine (GA.out _).mono ?_
          rintro e w9 ⟨v3, rfl, hown3, hb9⟩
          have hB9 := hB8.trans (hb9.mono hB8.size)
          rw [HLL.out] at hown3
          have HM3 := Lib.hid (ints_of_owns hown3)
          have HM9 := Lib.hid (HM2'.out.below hb9)
          clear hown3 hb9 hB8
          go_wp2_with fail
          refine (sameInts_yes xs hgl _ _ _ HM3.out HM9.out).mono ?_
          rintro e w10 ⟨rfl, hb10⟩
          have hB10 := hB9.trans (hb10.mono hB9.size)
          go_wp2_with fail
          refine (works_any _).mono ?_
          rintro e w11 ⟨rfl, hb11⟩
          go_wp2
          go_ret
          exact ⟨rfl, hB10.trans (hb11.mono hB10.size)⟩
        · obtain ⟨g1, o1, rfl, hg7, hcell1⟩ := hc1 hxs
          have hg1ge := hge1 g1 o1 ⟨_, _, rfl⟩
          have hg1lt := (hlt1 g1 rfl).2
          have HC1 := Lib.hid (fun j (h : j < xs.length) => (hb8.cell (p := ⟨g1, o1 + j, none⟩) hg7).trans (hcell1 j h))
          have HF1 := Lib.hid (fun j => (hb8.frozen (p := ⟨g1, j, none⟩) hg7).trans (hf1 g1 o1 j ⟨_, _, rfl⟩))
          have HNE := Lib.hid (fun b off (h : ∃ n c, Value.slice a2 xs.length c2 = .slice (some ⟨b, off, none⟩) n c) => (show b ≠ g1 from by have := HD.out b off h; omega))
          have hge : w.heap.size ≤ g1 := by omega
          clear hxs hc1 hlt1 hf1 hge1 hcell1 hb7 hb8
          go_wp2
          go_loopw [14] (fun p wr => ∃ k : Nat, k ≤ xs.length ∧ p = .int .i64 k ∧ Only g1 w8 wr ∧ (∀ j, wr.frozen? ⟨g1, j, none⟩ = false) ∧ ∀ j, j < xs.length → ∃ y : Int, wr.cell? ⟨g1, o1 + j, none⟩ = some (.int .i64 y)) (fun p _ => xs.length - (intOf p).toNat)
          case atStart => exact ⟨0, Nat.zero_le _, rfl, Only.refl _ _, HF1.out, fun j h => ⟨_, HC1.out j h⟩⟩
          case round =>
            obtain ⟨k, hk9, rfl, hO, hfs, hcs⟩ := hrel
            have HCS := Lib.hid hcs
            have HFS := Lib.hid hfs
            clear hcs hfs
            by_cases hlt : k < xs.length
            · obtain ⟨y, hy⟩ := HCS.out k hlt
              have hf : wr.frozen? ⟨g1, o1 + k, none⟩ = false := HFS.out _
              go_wp2
              go_roundw
              case rel => exact ⟨k + 1, by omega, by go_num, hO.set _ _, fun j => by rw [World.frozen?_setCell]; exact HFS.out j, only_cells HCS.out hy⟩
              case measure => simp [intOf]; omega
            · obtain rfl : k = xs.length := by omega
              have hBr := hB8.trans (hO.below hge)
              have HM8 := Lib.hid (hO.ints HM2'.out HNE.out)
              go_wp2_with fail
              refine (GA.out _).mono ?_
              rintro e w9 ⟨v3, rfl, hown3, hb9⟩
              have hB9 := hBr.trans (hb9.mono hBr.size)
              rw [HLL.out] at hown3
              have HM3 := Lib.hid (ints_of_owns hown3)
              have HM9 := Lib.hid (HM8.out.below hb9)
              clear hown3 hb9 hBr hO
              go_wp2_with fail
              refine (sameInts_yes xs hgl _ _ _ HM3.out HM9.out).mono ?_
              rintro e w10 ⟨rfl, hb10⟩
              have hB10 := hB9.trans (hb10.mono hB9.size)
              go_wp2_with fail
              refine (works_any _).mono ?_
              rintro e w11 ⟨rfl, hb11⟩
              go_wp2
              go_ret
              exact ⟨rfl, hB10.trans (hb11.mono hB10.size)⟩
      | some ad =>
        have hcell : ∀ (j : Nat) (u : Value), (l.map (Value.int .i64))[j]? = some u → w.cell? (ad.add j) = some u := fun j u h => by
          by_cases hne : l = []
          · subst hne; simp at h
          · obtain ⟨b, off, h1, _, h2⟩ := hc hne
            cases h1
            exact src_at h2 j u h
        have HC := Lib.hid hcell
        clear hc hcell
        go_enter Try.func9, Try.ntmps9
        go_wp2_with (at_make; refine wpList_make_own _ rfl _ _ 34 rfl w.heap.size 3 i0 (.int .i64 0) 1 Try.underlying34 hi hz0 hz1 _ _ _ (l.length + 2) rfl rfl (by omega) ?b2 ?b3 (Nat.le_refl _) ?_)
        case b2 => rw [hz2]; omega
        case b3 => unfold maxLen; omega
        intro w0 hown0 hgr0
        have hB0 : Below w.heap.size w w0 := (Below.refl _ _).grown hgr0 (Nat.le_refl _) (fun k h => by cases h)
        have hBs0 := hB0.size
        have hcell0 : ∀ (j : Nat) (u : Value), (l.map (Value.int .i64))[j]? = some u → w0.cell? (ad.add j) = some u := fun j u h => by
          have h1 := HC.out j u h
          have h2 := block_of_cell h1
          exact (hB0.cell h2).trans h1
        have HC0 := Lib.hid hcell0
        clear hcell0
        go_wp2_with (at_builtin; refine wpList_append_own _ rfl _ _ 34 rfl w.heap.size 3 i0 (.int .i64 0) 1 8 Try.underlying34 hi hz0 hz1 hz2 rfl (by decide) _ _ _ rfl hown0 ad l.length cap (l.map (Value.int .i64)) rfl (by simp) HC0.out (ints_one _) (by unfold maxLen; omega) (by omega) (by omega) ?_)
        intro v1 w1 hown1' hgr1 _
        have hown1 : w1.ownsRow w.heap.size 3 1 v1 l.length (l.map (Value.int .i64)) := by simpa using hown1'
        have hB1 := hB0.grown hgr1 hB0.size (fun k hk => (hown0.lt k hk).1)
        clear hown0 hgr0 hB0 hBs0 hown1' hgr1
        have hBs1 := hB1.size
        go_wp2_with (at_builtin; refine wpList_append_own _ rfl _ _ 34 rfl w.heap.size 3 i0 (.int .i64 0) 1 8 Try.underlying34 hi hz0 hz1 hz2 rfl (by decide) _ _ _ rfl (hown1.alloc _) ⟨w1.heap.size, 0, none⟩ 2 2 [.int .i64 (-70), .int .i64 (-71)] rfl rfl (two_at _ _ _ _) (two_one _ _) (by unfold maxLen; omega) (by omega) (by simp; omega) ?_)
        intro v2 w2 hown2 hgr2 _
        have hB2 := grew hB1 hown1 hgr2
        obtain ⟨g, cap2, rfl, hg1, hg2, hg3, hT, hx, hy⟩ := copy_cells hown2
        have HT := Lib.hid hT
        clear hown1 hB1 hBs1 hgr2 hown2 hT
        go_wp2_with fail
        refine (putAll_any l hl8 HI.out _ _ HT.out).mono ?_
        rintro e w3 ⟨rfl, hb3⟩
        have hB3 := hB2.trans (hb3.mono hB2.size)
        go_wp2_with fail
        refine (refPutAll_any l hl8 HI.out _ _ (HV.out.below hB3)).mono ?_
        rintro e w4 ⟨rfl, hb4⟩
        have hB4 := hB3.trans (hb4.mono hB3.size)
        have hb24 := hb3.trans (hb4.mono hb3.size)
        clear hb3 hb4 hB3
        go_wp2_with fail
        refine (sameInts_yes l hl8 _ _ _ (HT.out.below hb24) (HV.out.below hB4)).mono ?_
        rintro e w5 ⟨rfl, hb5⟩
        have hB5 := hB4.trans (hb5.mono hB4.size)
        have hb25 := hb24.trans (hb5.mono hb24.size)
        have hx5 := (hb25.cell (p := ⟨g, l.length, none⟩) hg2).trans hx
        have hy5 := (hb25.cell (p := ⟨g, l.length + 1, none⟩) hg2).trans hy
        clear hb5 hB4 hb24 hb25 hx hy
        go_wp2_with fail
        refine (GA.out _).mono ?_
        rintro e w6 ⟨v1, rfl, hown1, hb6⟩
        have hB6 := hB5.trans (hb6.mono hB5.size)
        clear hx5 hy5
        go_wp2_with fail
        refine (RA.out _).mono ?_
        rintro e w7 ⟨v2, rfl, hown2, hb7⟩
        have hB7 := hB6.trans (hb7.mono hB6.size)
        rw [HLL.out] at hown1 hown2
        have hm1 := (ints_of_owns hown1).below hb7
        have hm2 := ints_of_owns hown2
        have HD := Lib.hid (own_block_ge hown2)
        have hlt1 := hown1.lt
        have hf1 := owns_frozen hown1 hb7
        have hge1 := own_block_ge hown1
        obtain ⟨a1, c1, rfl, hc1⟩ := hm1
        obtain ⟨a2, c2, rfl, hc2⟩ := hm2
        have HM1 := Lib.hid (show IntsAt .i64 w7 (.slice a1 xs.length c1) xs from ⟨a1, c1, rfl, hc1⟩)
        have HM2 := Lib.hid (show IntsAt .i64 w7 (.slice a2 xs.length c2) xs from ⟨a2, c2, rfl, hc2⟩)
        have h56 := hB5.size
        have h67 := hb6.size
        clear hown1 hown2 hc2 hb6 hB6 hB5
        go_wp2_with fail
        refine (sameInts_yes xs hgl _ _ _ HM1.out HM2.out).mono ?_
        rintro e w8 ⟨rfl, hb8⟩
        have hB8 := hB7.trans (hb8.mono hB7.size)
        have HM2' := Lib.hid (HM2.out.below hb8)
        by_cases hxs : xs = []
        · have hx0 : xs.length ≤ 0 := by rw [hxs]; exact Nat.le_refl _
          have HX := Lib.hid hxs
          clear hxs hc1 hlt1 hf1 hge1 hb7 h56 h67
          go_wp2
          refine wp_loop_rounds 1 ?_
          rw [rounds_succ]
          go_wp2_with fail
          refine (GA.out _).mono ?_
          rintro e w9 ⟨v3, rfl, hown3, hb9⟩
          have hB9 := hB8.trans (hb9.mono hB8.size)
          rw [HLL.out] at hown3
          have HM3 := Lib.hid (ints_of_owns hown3)
          have HM9 := Lib.hid (HM2'.out.below hb9)
          clear hown3 hb9 hB8
          go_wp2_with fail
          refine (sameInts_yes xs hgl _ _ _ HM3.out HM9.out).mono ?_
          rintro e w10 ⟨rfl, hb10⟩
          have hB10 := hB9.trans (hb10.mono hB9.size)
          go_wp2_with fail
          refine (works_any _).mono ?_
          rintro e w11 ⟨rfl, hb11⟩
          go_wp2
          go_ret
          exact ⟨rfl, hB10.trans (hb11.mono hB10.size)⟩
        · obtain ⟨g1, o1, rfl, hg7, hcell1⟩ := hc1 hxs
          have hg1ge := hge1 g1 o1 ⟨_, _, rfl⟩
          have hg1lt := (hlt1 g1 rfl).2
          have HC1 := Lib.hid (fun j (h : j < xs.length) => (hb8.cell (p := ⟨g1, o1 + j, none⟩) hg7).trans (hcell1 j h))
          have HF1 := Lib.hid (fun j => (hb8.frozen (p := ⟨g1, j, none⟩) hg7).trans (hf1 g1 o1 j ⟨_, _, rfl⟩))
          have HNE := Lib.hid (fun b off (h : ∃ n c, Value.slice a2 xs.length c2 = .slice (some ⟨b, off, none⟩) n c) => (show b ≠ g1 from by have := HD.out b off h; omega))
          have hge : w.heap.size ≤ g1 := by omega
          clear hxs hc1 hlt1 hf1 hge1 hcell1 hb7 hb8
          go_wp2
          go_loopw [14] (fun p wr => ∃ k : Nat, k ≤ xs.length ∧ p = .int .i64 k ∧ Only g1 w8 wr ∧ (∀ j, wr.frozen? ⟨g1, j, none⟩ = false) ∧ ∀ j, j < xs.length → ∃ y : Int, wr.cell? ⟨g1, o1 + j, none⟩ = some (.int .i64 y)) (fun p _ => xs.length - (intOf p).toNat)
          case atStart => exact ⟨0, Nat.zero_le _, rfl, Only.refl _ _, HF1.out, fun j h => ⟨_, HC1.out j h⟩⟩
          case round =>
            obtain ⟨k, hk9, rfl, hO, hfs, hcs⟩ := hrel
            have HCS := Lib.hid hcs
            have HFS := Lib.hid hfs
            clear hcs hfs
            by_cases hlt : k < xs.length
            · obtain ⟨y, hy⟩ := HCS.out k hlt
              have hf : wr.frozen? ⟨g1, o1 + k, none⟩ = false := HFS.out _
              go_wp2
              go_roundw
              case rel => exact ⟨k + 1, by omega, by go_num, hO.set _ _, fun j => by rw [World.frozen?_setCell]; exact HFS.out j, only_cells HCS.out hy⟩
              case measure => simp [intOf]; omega
            · obtain rfl : k = xs.length := by omega
              have hBr := hB8.trans (hO.below hge)
              have HM8 := Lib.hid (hO.ints HM2'.out HNE.out)
              go_wp2_with fail
              refine (GA.out _).mono ?_
              rintro e w9 ⟨v3, rfl, hown3, hb9⟩
              have hB9 := hBr.trans (hb9.mono hBr.size)
              rw [HLL.out] at hown3
              have HM3 := Lib.hid (ints_of_owns hown3)
              have HM9 := Lib.hid (HM8.out.below hb9)
              clear hown3 hb9 hBr hO
              go_wp2_with fail
              refine (sameInts_yes xs hgl _ _ _ HM3.out HM9.out).mono ?_
              rintro e w10 ⟨rfl, hb10⟩
              have hB10 := hB9.trans (hb10.mono hB9.size)
              go_wp2_with fail
              refine (works_any _).mono ?_
              rintro e w11 ⟨rfl, hb11⟩
              go_wp2
              go_ret
              exact ⟨rfl, hB10.trans (hb11.mono hB10.size)⟩
    · clear hc hnil hv0 hi64
      go_enter Try.func9, Try.ntmps9
      go_wp2
      go_ret
      exact ⟨rfl, Below.refl _ _⟩
  · clear hc hnil hv0 hi64
    go_enter Try.func9, Try.ntmps9
    go_wp2
    go_ret
    exact ⟨rfl, Below.refl _ _⟩
end Go.Proofs.Ytadhfaefcdihgaa
