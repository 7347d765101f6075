/- Walk of layer 3: FramesSpoilt. -/
import Derived.Test.YtcgiceebcombeaaC3m
import Derived.IntWalk
namespace Go.Proofs.Ytcgiceebcombeaa
open Go.RowKit

theorem tmod_bounds (a : Int) (n : Nat) (h : 0 < n) : -(n : Int) < a.tmod n ∧ a.tmod n < n := ⟨Int.lt_tmod_of_pos a (by omega), Int.tmod_lt_of_pos a (by omega)⟩
theorem tdiv_bounds (a : Int) (n : Nat) (h : 0 < n) (h0 : -9223372036854775808 ≤ a) (h1 : a ≤ 9223372036854775807) : -9223372036854775808 ≤ a.tdiv n ∧ a.tdiv n ≤ 9223372036854775807 := by
  by_cases hp : 0 ≤ a
  · rw [Int.tdiv_eq_ediv_of_nonneg hp]
    have h2 := Int.ediv_nonneg hp (show (0 : Int) ≤ n by omega)
    have h3 := Int.ediv_le_self (n : Int) hp
    omega
  · have e : a.tdiv n = -((-a).tdiv n) := by rw [Int.neg_tdiv, Int.neg_neg]
    rw [e, Int.tdiv_eq_ediv_of_nonneg (by omega)]
    have h2 := Int.ediv_nonneg (show 0 ≤ -a by omega) (show (0 : Int) ≤ n by omega)
    have h3 := Int.ediv_le_self (n : Int) (show 0 ≤ -a by omega)
    omega
theorem wrap_in (n : Int) (h : -9223372036854775808 ≤ n ∧ n ≤ 9223372036854775807) : IntKind.i64.wrap n = n := IntWalk.i64_in n h
/-- Block B holds these bytes, which may be written. -/
def BytesAt (w : World) (B : Nat) (l : List UInt8) : Prop := (∀ t (h : t < l.length), w.cell? ⟨B, t, none⟩ = some (.int .u8 (l[t].toNat : Int))) ∧ ∀ t, t < l.length → w.frozen? ⟨B, t, none⟩ = false
theorem bytes_new (w : World) (s : ByteArray) (c : Nat) : BytesAt (w.alloc (.cells (bytesRow s c) 5 ((bytesRow s c).size, (bytesRow s c).size + 1))) w.heap.size s.data.toList := by
  constructor
  · intro t h
    rw [World.cell?_alloc_mark, bytesRow_at s c t (by rw [bytes_len] at h; exact h)]
    simp
  · intro t h
    rw [World.frozen?_alloc_mark]
    have : t < (bytesRow s c).size := by
      unfold bytesRow
      rw [Array.size_append, Array.size_map]
      rw [bytes_len] at h
      have : s.data.size = s.size := rfl
      omega
    simp; omega
theorem bytes_set {w : World} {B : Nat} {l : List UInt8} (h : BytesAt w B l) (j : Nat) (x : UInt8) : BytesAt (w.setCell ⟨B, j, none⟩ (.int .u8 (x.toNat : Int))) B (l.set j x) := by
  obtain ⟨h1, h2⟩ := h
  constructor
  · intro t ht
    rw [List.length_set] at ht
    by_cases e : j = t
    · subst e
      rw [World.cell?_setCell_same _ _ _ (h1 j ht), List.getElem_set_self]
    · rw [World.cell?_setCell_other _ _ _ _ (fun q => e (by cases q; rfl)), h1 t ht, List.getElem_set_ne e]
  · intro t ht
    rw [List.length_set] at ht
    rw [World.frozen?_setCell]; exact h2 t ht
theorem bytes_back {w : World} {B cap : Nat} {l : List UInt8} (h : BytesAt w B l) : (convert 39 9 (.slice (some ⟨B, 0, none⟩) l.length cap)).run Try.prog w = .ok (.string (str l)) w :=
  run_convert_bytes_back w 39 9 5 ⟨B, 0, none⟩ cap l Try.underlying39 Try.underlying5 Try.underlying9 (fun j hj => by
    have := h.1 j hj
    by_cases e : j = 0
    · subst e; simpa [Addr.add] using this
    · simpa [Addr.add, e] using this)

set_option maxRecDepth 100000 in
set_option maxHeartbeats 8000000 in
theorem framesSpoilt_walk (ts : List ByteArray) (v : Value) (a by_ : Int) (_ : ∀ t ∈ ts, t.size ≤ maxLen) (ha : (Lit.int .i64 a).wf = true) (hby : (Lit.int .u8 by_).wf = true) (w : World) (hv0 : StrsIn w v ts) :
    Calls Try.prog 8 #[v, .int .i64 a, .int .u8 by_] w fun e w' => e = .returned (.bool true) ∧ Below w.heap.size w w' := by
  obtain ⟨hv, hcap⟩ := hv0
  have HF := Lib.hid (framed_any hv)
  have HV := Lib.hid hv
  obtain ⟨av, cv, rfl, _⟩ := hv
  obtain ⟨hlc, _⟩ := hcap _ _ _ rfl
  clear hcap
  obtain ⟨y, rfl⟩ : ∃ y : UInt8, by_ = (y.toNat : Int) := by
    simp only [Lit.wf, Bool.and_eq_true, decide_eq_true_eq] at hby
    obtain ⟨h1, h2⟩ := hby
    have h3 : (0 : Int) ≤ by_ := h1
    have h4 : by_ ≤ 255 := h2
    exact ⟨UInt8.ofNat by_.toNat, by rw [ofNat_val]; omega⟩
  clear hby
  have HAB := Lib.hid ha
  clear ha
  go_enter Try.func8, Try.ntmps8
  go_wp2_with fail
  refine HF.out.mono ?_
  rintro e w1 ⟨b1, ⟨h40, hL, ve, rfl, hE⟩ | ⟨_, rfl⟩⟩
  · clear HF
    by_cases hne : ts = []
    · have hl0 : ((ts.length : Int) == 0) = true := by rw [hne]; rfl
      clear hE hL HV
      have HNE := Lib.hid hne
      clear hne
      go_wp2_with fail
      refine (works_any _).mono ?_
      rintro e w2 ⟨rfl, b2⟩
      go_wp2
      go_ret
      exact ⟨rfl, b1.trans (b2.mono b1.size)⟩
    · by_cases hy : y = 0
      · have hl0 : ((ts.length : Int) == 0) = false := by
          rw [beq_eq_false_iff_ne]
          have := List.length_pos_iff.2 hne
          omega
        have hy0 : ((y.toNat : Int) == 0) = true := by rw [hy]; rfl
        clear hE hL HV hne hy
        go_wp2_with fail
        refine (works_any _).mono ?_
        rintro e w2 ⟨rfl, b2⟩
        go_wp2
        go_ret
        exact ⟨rfl, b1.trans (b2.mono b1.size)⟩
      · have ha := HAB.out
        have hpos : 0 < ts.length := List.length_pos_iff.2 hne
        obtain ⟨ae, ce, rfl, hce⟩ := hE
        obtain ⟨g, rfl, hg, hgc⟩ := hce hne
        have HVV := HV.out.below b1
        obtain ⟨av2, cv2, hv2, hc2⟩ := HV.out.below b1
        cases hv2
        obtain ⟨b, off, rfl, hbl, hbc⟩ := hc2 hne
        obtain ⟨m1, m2⟩ := tmod_bounds a ts.length hpos
        have hab : -9223372036854775808 ≤ a ∧ a ≤ 9223372036854775807 := by simp only [Lit.wf, Bool.and_eq_true, decide_eq_true_eq] at ha; exact ha
        have ew4 := Lib.hid (wrap_in (a.tdiv ts.length) (tdiv_bounds a ts.length hpos hab.1 hab.2))
        clear ha hab
        have hK : ∃ K : Nat, K < ts.length ∧ ((a.tmod ts.length < 0 ∧ a.tmod ts.length + ts.length = K) ∨ (¬ a.tmod ts.length < 0 ∧ a.tmod ts.length = K)) := by
          by_cases h : a.tmod ts.length < 0
          · exact ⟨(a.tmod ts.length + ts.length).toNat, by omega, .inl ⟨h, by omega⟩⟩
          · exact ⟨(a.tmod ts.length).toNat, by omega, .inr ⟨h, by omega⟩⟩
        obtain ⟨K, hKl, hK⟩ := hK
        have x1 := hgc K hKl
        have x2 := hbc K hKl
        have hsz := hL _ (List.getElem_mem hKl)
        have hal := all_len ts hL
        have hfe := from_end ts K hKl
        have hfl := from_lt ts K hKl
        obtain ⟨p1, p2⟩ := tmod_bounds (a.tdiv ts.length) (ts[K].size + 4) (by omega)
        have HLaw := Lib.hid (fun i hi hlt => spoilt_whole hL K i hKl hi y hy hlt)
        generalize hFk : fromF ts K hKl = F at *
        obtain ⟨S, hS⟩ : ∃ S, str (allF ts) = S := ⟨_, rfl⟩
        have hSl : Hid (S.data.toList = allF ts) := by rw [← hS]; rfl
        have hSz : S.size = (allF ts).length := by rw [← hS, str_size]
        rw [hS]
        obtain ⟨E, hEe⟩ : ∃ E, F + 4 + ts[K].size = E := ⟨_, rfl⟩
        rw [hfe, hEe] at x1
        have HFk := Lib.hid hFk
        generalize ts[K] = t at *
        have HK := Lib.hid hK
        have HZ := Lib.hid hSz
        have hSs : S.size ≤ 41000 := by omega
        have hFS : F + 4 + t.size ≤ S.size := by omega
        have hcv := fun (w : World) => run_bytes_of_string (P := Try.prog) w 9 39 5 S Try.underlying9 Try.underlying39 Try.underlying5
        have HHV := Lib.hid HVV
        have hy0 : ((y.toNat : Int) == 0) = false := by
          rw [beq_eq_false_iff_ne]
          intro h
          apply hy
          apply UInt8.toNat_inj.1
          show y.toNat = 0
          omega
        have hgc2 := hgc
        clear hce hc2 hgc hbc hS hSz hfe hfl hal HV HVV hFk hL
        have HM := Lib.hid (And.intro m1 (And.intro m2 (And.intro p1 p2)))
        clear m1 m2 p1 p2 hK
        have hl0 : ((ts.length : Int) == 0) = false := by rw [beq_eq_false_iff_ne]; omega
        have i1 : (0 : Int) ≤ K := by omega
        have i2 : (K : Int) < ts.length := by omega
        have ew1 := wrap_in ((E : Int) - t.size) (by omega)
        have ew2 := wrap_in ((E : Int) - t.size - 4) (by omega)
        have HFr := Lib.hid (show (E : Int) - t.size - 4 = (F : Int) by omega)
        have HEe := Lib.hid hEe
        clear hEe
        have HGC := Lib.hid hgc2
        clear hgc2
        by_cases hneg : a.tmod ts.length < 0
        · have EK := Lib.hid (show wrap64 (a.tmod ts.length + ts.length) = (K : Int) by
            have h1 := HK.out
            have h2 := HM.out
            rw [IntWalk.wrap64_in _ ⟨by omega, by omega⟩]; omega)
          go_wp2_with fail
          rw [EK.out]
          go_quiet (fail)
          clear ew1 ew2
          rw [HFr.out]
          go_wp2_with fail
          have HB3 := bytes_new (w1.drewN (nq + 1)) S (grownCap (w1.drewN nq) S.size 0 5)
          have B3 : Below w1.heap.size w1 ((w1.drewN (nq + 1)).alloc (.cells (bytesRow S (grownCap (w1.drewN nq) S.size 0 5)) 5 ((bytesRow S (grownCap (w1.drewN nq) S.size 0 5)).size, (bytesRow S (grownCap (w1.drewN nq) S.size 0 5)).size + 1))) :=
            (below_drewN (Below.refl _ _) _).alloc (Nat.le_refl _) _
          generalize grownCap (w1.drewN nq) S.size 0 5 = gc at *
          generalize (w1.drewN (nq + 1)).alloc (.cells (bytesRow S gc) 5 ((bytesRow S gc).size, (bytesRow S gc).size + 1)) = w3 at *
          have x3 : w3.cell? ⟨b, off + K, none⟩ = some (.string t) := (B3.cell (p := ⟨b, off + K, none⟩) hbl).trans x2
          have HB3' : Hid (BytesAt w3 w1.heap.size S.data.toList) := HB3
          have ew5 := wrap_in ((t.size : Int) + 4) (by omega)
          have ew6 := ew4.out
          clear HB3 x1 x2 hcv nq
          go_quiet (fail)
          clear ew5 ew6 x3
          have HB4 : Hid (BytesAt (w3.drewN nq) w1.heap.size S.data.toList) := HB3'.out
          have B4 : Below w1.heap.size w1 (w3.drewN nq) := below_drewN B3 nq
          generalize w3.drewN nq = w4 at *
          have hz := HM.out.2.2
          rw [show ((t.size + 4 : Nat) : Int) = (t.size : Int) + 4 by omega] at hz
          generalize (a.tdiv ts.length).tmod ((t.size : Int) + 4) = z at *
          obtain ⟨hz1, hz2⟩ := hz
          by_cases hzn : z < 0
          · obtain ⟨I, rfl⟩ : ∃ I : Nat, z = -(I : Int) := ⟨z.natAbs, by omega⟩
            have hIl : F + I < (allF ts).length := by rw [← HZ.out]; omega
            have HLI := Lib.hid (HLaw.out I (by omega) hIl)
            have hIl2 : F + I < S.data.toList.length := by rw [hSl.out]; exact hIl
            have z1 := HB4.out.1 (F + I) hIl2
            have z2 := HB4.out.2 (F + I) hIl2
            have hold : S.data.toList[F + I] = (allF ts)[F + I] := by simp only [hSl.out]
            rw [hold] at z1
            have HX := Lib.hid (show bits .xor .u8 (((allF ts)[F + I].toNat : Nat) : Int) ((y.toNat : Nat) : Int) = (((allF ts)[F + I] ^^^ y).toNat : Int) by rw [u8_xor_nat _ _ (UInt8.toNat_lt _) (UInt8.toNat_lt _), UInt8.toNat_xor])
            have hB5 := bytes_set HB4.out (F + I) ((allF ts)[F + I] ^^^ y)
            rw [← HX.out] at hB5
            have B5 : Below w1.heap.size w1 (w4.setCell ⟨w1.heap.size, F + I, none⟩ (.int .u8 (bits .xor .u8 (((allF ts)[F + I].toNat : Nat) : Int) ((y.toNat : Nat) : Int)))) := B4.setCell (Nat.le_refl _) _
            have hcb := bytes_back (cap := gc) hB5
            rw [List.length_set, bytes_len] at hcb
            have hWl : (str (S.data.toList.set (F + I) ((allF ts)[F + I] ^^^ y))).data.toList = (allF ts).set (F + I) ((allF ts)[F + I] ^^^ y) := by rw [str_list, hSl.out]
            have HWl := Lib.hid hWl
            have XW := Lib.hid (whole_any (str (S.data.toList.set (F + I) ((allF ts)[F + I] ^^^ y))) (by rw [str_size, List.length_set, bytes_len]; omega))
            generalize str (S.data.toList.set (F + I) ((allF ts)[F + I] ^^^ y)) = T at *
            clear hold hB5 hWl hIl2
            go_wp2_with fail
            refine (XW.out _).mono ?_
            rintro e w6 ⟨ps, n, vm, rfl, hW, hO, b6⟩
            rw [HWl.out] at hW
            obtain ⟨rfl, rfl⟩ := whole_unique hW HLI.out
            have B6 := B5.trans (b6.mono B5.size)
            have hOm := own_strs hO
            rw [map_back] at hOm
            have HS := Lib.hid (same_any (by rw [List.length_take]; omega) hOm (strs_take (HHV.out.below B6) K (by omega)))
            have B6w := b1.trans (B6.mono b1.size)
            clear hW hO hOm
            by_cases hK0 : K = 0
            · subst hK0
              have HZ0 := Lib.hid (show (allF (ts.take 0)).length = 0 by simp [allF])
              rw [HZ0.out]
              go_wp2_with fail
              refine HS.out.mono ?_
              rintro e w7 ⟨rfl, q, rfl⟩
              go_wp2_with fail
              refine (works_any _).mono ?_
              rintro e w8 ⟨rfl, b8⟩
              go_wp2
              go_ret
              exact ⟨rfl, (below_drewN B6w q).trans (b8.mono (below_drewN B6w q).size)⟩
            · obtain ⟨K', rfl⟩ : ∃ K', K = K' + 1 := ⟨K - 1, by omega⟩
              have x9 : w6.cell? ⟨g, K', none⟩ = some (.int .i64 ((allF (ts.take (K' + 1))).length : Nat)) := (B6.cell (p := ⟨g, K', none⟩) hg).trans (HGC.out K' (by omega))
              generalize (allF (ts.take (K' + 1))).length = n at *
              go_wp2_with fail
              refine HS.out.mono ?_
              rintro e w7 ⟨rfl, q, rfl⟩
              go_wp2_with fail
              refine (works_any _).mono ?_
              rintro e w8 ⟨rfl, b8⟩
              go_wp2
              go_ret
              exact ⟨rfl, (below_drewN B6w q).trans (b8.mono (below_drewN B6w q).size)⟩
          · obtain ⟨I, rfl⟩ : ∃ I : Nat, z = (I : Int) := ⟨z.toNat, by omega⟩
            have hIl : F + I < (allF ts).length := by rw [← HZ.out]; omega
            have HLI := Lib.hid (HLaw.out I (by omega) hIl)
            have hIl2 : F + I < S.data.toList.length := by rw [hSl.out]; exact hIl
            have z1 := HB4.out.1 (F + I) hIl2
            have z2 := HB4.out.2 (F + I) hIl2
            have hold : S.data.toList[F + I] = (allF ts)[F + I] := by simp only [hSl.out]
            rw [hold] at z1
            have HX := Lib.hid (show bits .xor .u8 (((allF ts)[F + I].toNat : Nat) : Int) ((y.toNat : Nat) : Int) = (((allF ts)[F + I] ^^^ y).toNat : Int) by rw [u8_xor_nat _ _ (UInt8.toNat_lt _) (UInt8.toNat_lt _), UInt8.toNat_xor])
            have hB5 := bytes_set HB4.out (F + I) ((allF ts)[F + I] ^^^ y)
            rw [← HX.out] at hB5
            have B5 : Below w1.heap.size w1 (w4.setCell ⟨w1.heap.size, F + I, none⟩ (.int .u8 (bits .xor .u8 (((allF ts)[F + I].toNat : Nat) : Int) ((y.toNat : Nat) : Int)))) := B4.setCell (Nat.le_refl _) _
            have hcb := bytes_back (cap := gc) hB5
            rw [List.length_set, bytes_len] at hcb
            have hWl : (str (S.data.toList.set (F + I) ((allF ts)[F + I] ^^^ y))).data.toList = (allF ts).set (F + I) ((allF ts)[F + I] ^^^ y) := by rw [str_list, hSl.out]
            have HWl := Lib.hid hWl
            have XW := Lib.hid (whole_any (str (S.data.toList.set (F + I) ((allF ts)[F + I] ^^^ y))) (by rw [str_size, List.length_set, bytes_len]; omega))
            generalize str (S.data.toList.set (F + I) ((allF ts)[F + I] ^^^ y)) = T at *
            clear hold hB5 hWl hIl2
            go_wp2_with fail
            refine (XW.out _).mono ?_
            rintro e w6 ⟨ps, n, vm, rfl, hW, hO, b6⟩
            rw [HWl.out] at hW
            obtain ⟨rfl, rfl⟩ := whole_unique hW HLI.out
            have B6 := B5.trans (b6.mono B5.size)
            have hOm := own_strs hO
            rw [map_back] at hOm
            have HS := Lib.hid (same_any (by rw [List.length_take]; omega) hOm (strs_take (HHV.out.below B6) K (by omega)))
            have B6w := b1.trans (B6.mono b1.size)
            clear hW hO hOm
            by_cases hK0 : K = 0
            · subst hK0
              have HZ0 := Lib.hid (show (allF (ts.take 0)).length = 0 by simp [allF])
              rw [HZ0.out]
              go_wp2_with fail
              refine HS.out.mono ?_
              rintro e w7 ⟨rfl, q, rfl⟩
              go_wp2_with fail
              refine (works_any _).mono ?_
              rintro e w8 ⟨rfl, b8⟩
              go_wp2
              go_ret
              exact ⟨rfl, (below_drewN B6w q).trans (b8.mono (below_drewN B6w q).size)⟩
            · obtain ⟨K', rfl⟩ : ∃ K', K = K' + 1 := ⟨K - 1, by omega⟩
              have x9 : w6.cell? ⟨g, K', none⟩ = some (.int .i64 ((allF (ts.take (K' + 1))).length : Nat)) := (B6.cell (p := ⟨g, K', none⟩) hg).trans (HGC.out K' (by omega))
              generalize (allF (ts.take (K' + 1))).length = n at *
              go_wp2_with fail
              refine HS.out.mono ?_
              rintro e w7 ⟨rfl, q, rfl⟩
              go_wp2_with fail
              refine (works_any _).mono ?_
              rintro e w8 ⟨rfl, b8⟩
              go_wp2
              go_ret
              exact ⟨rfl, (below_drewN B6w q).trans (b8.mono (below_drewN B6w q).size)⟩
        · have EK := Lib.hid (show a.tmod ts.length = (K : Int) by
            have h1 := HK.out
            omega)
          go_wp2_with fail
          rw [EK.out]
          go_quiet (fail)
          clear ew1 ew2
          rw [HFr.out]
          go_wp2_with fail
          have HB3 := bytes_new (w1.drewN (nq + 1)) S (grownCap (w1.drewN nq) S.size 0 5)
          have B3 : Below w1.heap.size w1 ((w1.drewN (nq + 1)).alloc (.cells (bytesRow S (grownCap (w1.drewN nq) S.size 0 5)) 5 ((bytesRow S (grownCap (w1.drewN nq) S.size 0 5)).size, (bytesRow S (grownCap (w1.drewN nq) S.size 0 5)).size + 1))) :=
            (below_drewN (Below.refl _ _) _).alloc (Nat.le_refl _) _
          generalize grownCap (w1.drewN nq) S.size 0 5 = gc at *
          generalize (w1.drewN (nq + 1)).alloc (.cells (bytesRow S gc) 5 ((bytesRow S gc).size, (bytesRow S gc).size + 1)) = w3 at *
          have x3 : w3.cell? ⟨b, off + K, none⟩ = some (.string t) := (B3.cell (p := ⟨b, off + K, none⟩) hbl).trans x2
          have HB3' : Hid (BytesAt w3 w1.heap.size S.data.toList) := HB3
          have ew5 := wrap_in ((t.size : Int) + 4) (by omega)
          have ew6 := ew4.out
          clear HB3 x1 x2 hcv nq
          go_quiet (fail)
          clear ew5 ew6 x3
          have HB4 : Hid (BytesAt (w3.drewN nq) w1.heap.size S.data.toList) := HB3'.out
          have B4 : Below w1.heap.size w1 (w3.drewN nq) := below_drewN B3 nq
          generalize w3.drewN nq = w4 at *
          have hz := HM.out.2.2
          rw [show ((t.size + 4 : Nat) : Int) = (t.size : Int) + 4 by omega] at hz
          generalize (a.tdiv ts.length).tmod ((t.size : Int) + 4) = z at *
          obtain ⟨hz1, hz2⟩ := hz
          by_cases hzn : z < 0
          · obtain ⟨I, rfl⟩ : ∃ I : Nat, z = -(I : Int) := ⟨z.natAbs, by omega⟩
            have hIl : F + I < (allF ts).length := by rw [← HZ.out]; omega
            have HLI := Lib.hid (HLaw.out I (by omega) hIl)
            have hIl2 : F + I < S.data.toList.length := by rw [hSl.out]; exact hIl
            have z1 := HB4.out.1 (F + I) hIl2
            have z2 := HB4.out.2 (F + I) hIl2
            have hold : S.data.toList[F + I] = (allF ts)[F + I] := by simp only [hSl.out]
            rw [hold] at z1
            have HX := Lib.hid (show bits .xor .u8 (((allF ts)[F + I].toNat : Nat) : Int) ((y.toNat : Nat) : Int) = (((allF ts)[F + I] ^^^ y).toNat : Int) by rw [u8_xor_nat _ _ (UInt8.toNat_lt _) (UInt8.toNat_lt _), UInt8.toNat_xor])
            have hB5 := bytes_set HB4.out (F + I) ((allF ts)[F + I] ^^^ y)
            rw [← HX.out] at hB5
            have B5 : Below w1.heap.size w1 (w4.setCell ⟨w1.heap.size, F + I, none⟩ (.int .u8 (bits .xor .u8 (((allF ts)[F + I].toNat : Nat) : Int) ((y.toNat : Nat) : Int)))) := B4.setCell (Nat.le_refl _) _
            have hcb := bytes_back (cap := gc) hB5
            rw [List.length_set, bytes_len] at hcb
            have hWl : (str (S.data.toList.set (F + I) ((allF ts)[F + I] ^^^ y))).data.toList = (allF ts).set (F + I) ((allF ts)[F + I] ^^^ y) := by rw [str_list, hSl.out]
            have HWl := Lib.hid hWl
            have XW := Lib.hid (whole_any (str (S.data.toList.set (F + I) ((allF ts)[F + I] ^^^ y))) (by rw [str_size, List.length_set, bytes_len]; omega))
            generalize str (S.data.toList.set (F + I) ((allF ts)[F + I] ^^^ y)) = T at *
            clear hold hB5 hWl hIl2
            go_wp2_with fail
            refine (XW.out _).mono ?_
            rintro e w6 ⟨ps, n, vm, rfl, hW, hO, b6⟩
            rw [HWl.out] at hW
            obtain ⟨rfl, rfl⟩ := whole_unique hW HLI.out
            have B6 := B5.trans (b6.mono B5.size)
            have hOm := own_strs hO
            rw [map_back] at hOm
            have HS := Lib.hid (same_any (by rw [List.length_take]; omega) hOm (strs_take (HHV.out.below B6) K (by omega)))
            have B6w := b1.trans (B6.mono b1.size)
            clear hW hO hOm
            by_cases hK0 : K = 0
            · subst hK0
              have HZ0 := Lib.hid (show (allF (ts.take 0)).length = 0 by simp [allF])
              rw [HZ0.out]
              go_wp2_with fail
              refine HS.out.mono ?_
              rintro e w7 ⟨rfl, q, rfl⟩
              go_wp2_with fail
              refine (works_any _).mono ?_
              rintro e w8 ⟨rfl, b8⟩
              go_wp2
              go_ret
              exact ⟨rfl, (below_drewN B6w q).trans (b8.mono (below_drewN B6w q).size)⟩
            · obtain ⟨K', rfl⟩ : ∃ K', K = K' + 1 := ⟨K - 1, by omega⟩
              have x9 : w6.cell? ⟨g, K', none⟩ = some (.int .i64 ((allF (ts.take (K' + 1))).length : Nat)) := (B6.cell (p := ⟨g, K', none⟩) hg).trans (HGC.out K' (by omega))
              generalize (allF (ts.take (K' + 1))).length = n at *
              go_wp2_with fail
              refine HS.out.mono ?_
              rintro e w7 ⟨rfl, q, rfl⟩
              go_wp2_with fail
              refine (works_any _).mono ?_
              rintro e w8 ⟨rfl, b8⟩
              go_wp2
              go_ret
              exact ⟨rfl, (below_drewN B6w q).trans (b8.mono (below_drewN B6w q).size)⟩
          · obtain ⟨I, rfl⟩ : ∃ I : Nat, z = (I : Int) := ⟨z.toNat, by omega⟩
            have hIl : F + I < (allF ts).length := by rw [← HZ.out]; omega
            have HLI := Lib.hid (HLaw.out I (by omega) hIl)
            have hIl2 : F + I < S.data.toList.length := by rw [hSl.out]; exact hIl
            have z1 := HB4.out.1 (F + I) hIl2
            have z2 := HB4.out.2 (F + I) hIl2
            have hold : S.data.toList[F + I] = (allF ts)[F + I] := by simp only [hSl.out]
            rw [hold] at z1
            have HX := Lib.hid (show bits .xor .u8 (((allF ts)[F + I].toNat : Nat) : Int) ((y.toNat : Nat) : Int) = (((allF ts)[F + I] ^^^ y).toNat : Int) by rw [u8_xor_nat _ _ (UInt8.toNat_lt _) (UInt8.toNat_lt _), UInt8.toNat_xor])
            have hB5 := bytes_set HB4.out (F + I) ((allF ts)[F + I] ^^^ y)
            rw [← HX.out] at hB5
            have B5 : Below w1.heap.size w1 (w4.setCell ⟨w1.heap.size, F + I, none⟩ (.int .u8 (bits .xor .u8 (((allF ts)[F + I].toNat : Nat) : Int) ((y.toNat : Nat) : Int)))) := B4.setCell (Nat.le_refl _) _
            have hcb := bytes_back (cap := gc) hB5
            rw [List.length_set, bytes_len] at hcb
            have hWl : (str (S.data.toList.set (F + I) ((allF ts)[F + I] ^^^ y))).data.toList = (allF ts).set (F + I) ((allF ts)[F + I] ^^^ y) := by rw [str_list, hSl.out]
            have HWl := Lib.hid hWl
            have XW := Lib.hid (whole_any (str (S.data.toList.set (F + I) ((allF ts)[F + I] ^^^ y))) (by rw [str_size, List.length_set, bytes_len]; omega))
            generalize str (S.data.toList.set (F + I) ((allF ts)[F + I] ^^^ y)) = T at *
            clear hold hB5 hWl hIl2
            go_wp2_with fail
            refine (XW.out _).mono ?_
            rintro e w6 ⟨ps, n, vm, rfl, hW, hO, b6⟩
            rw [HWl.out] at hW
            obtain ⟨rfl, rfl⟩ := whole_unique hW HLI.out
            have B6 := B5.trans (b6.mono B5.size)
            have hOm := own_strs hO
            rw [map_back] at hOm
            have HS := Lib.hid (same_any (by rw [List.length_take]; omega) hOm (strs_take (HHV.out.below B6) K (by omega)))
            have B6w := b1.trans (B6.mono b1.size)
            clear hW hO hOm
            by_cases hK0 : K = 0
            · subst hK0
              have HZ0 := Lib.hid (show (allF (ts.take 0)).length = 0 by simp [allF])
              rw [HZ0.out]
              go_wp2_with fail
              refine HS.out.mono ?_
              rintro e w7 ⟨rfl, q, rfl⟩
              go_wp2_with fail
              refine (works_any _).mono ?_
              rintro e w8 ⟨rfl, b8⟩
              go_wp2
              go_ret
              exact ⟨rfl, (below_drewN B6w q).trans (b8.mono (below_drewN B6w q).size)⟩
            · obtain ⟨K', rfl⟩ : ∃ K', K = K' + 1 := ⟨K - 1, by omega⟩
              have x9 : w6.cell? ⟨g, K', none⟩ = some (.int .i64 ((allF (ts.take (K' + 1))).length : Nat)) := (B6.cell (p := ⟨g, K', none⟩) hg).trans (HGC.out K' (by omega))
              generalize (allF (ts.take (K' + 1))).length = n at *
              go_wp2_with fail
              refine HS.out.mono ?_
              rintro e w7 ⟨rfl, q, rfl⟩
              go_wp2_with fail
              refine (works_any _).mono ?_
              rintro e w8 ⟨rfl, b8⟩
              go_wp2
              go_ret
              exact ⟨rfl, (below_drewN B6w q).trans (b8.mono (below_drewN B6w q).size)⟩
  · go_wp2_with fail
    refine (works_any _).mono ?_
    rintro e w2 ⟨rfl, b2⟩
    go_wp2
    go_ret
    exact ⟨rfl, b1.trans (b2.mono b1.size)⟩
end Go.Proofs.Ytcgiceebcombeaa
