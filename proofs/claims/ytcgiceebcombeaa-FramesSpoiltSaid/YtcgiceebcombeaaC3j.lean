/- Walk of layer 3: FramesBack. -/
import Derived.Test.YtcgiceebcombeaaC3i
namespace Go.Proofs.Ytcgiceebcombeaa
open Go.RowKit

set_option maxRecDepth 100000 in
set_option maxHeartbeats 4000000 in
theorem framesBack_walk (ts : List ByteArray) (v : Value) (_ : ∀ t ∈ ts, t.size ≤ maxLen) (w : World) (hv0 : StrsIn w v ts) :
    Calls Try.prog 6 #[v] w fun e w' => e = .returned (.bool true) ∧ Below w.heap.size w w' := by
  have hv := hv0.1
  clear hv0
  have HF := Lib.hid (framed_any hv)
  have HV := Lib.hid hv
  obtain ⟨av, cv, rfl, _⟩ := hv
  go_enter Try.func6, Try.ntmps6
  go_wp2_with fail
  refine HF.out.mono ?_
  rintro e w1 ⟨b1, ⟨h40, hL, ve, rfl, hE⟩ | ⟨_, rfl⟩⟩
  · have hal := all_len ts hL
    have HW := Lib.hid (whole_frames hL)
    have HN := Lib.hid (fun k hk => all_next hL k hk)
    have HEnd := Lib.hid (next_end (allF ts))
    obtain ⟨S, hS⟩ : ∃ S, str (allF ts) = S := ⟨_, rfl⟩
    have hSl : Hid (S.data.toList = allF ts) := by rw [← hS]; rfl
    have hSz : S.size = (allF ts).length := by rw [← hS, str_size]
    have hSs : S.size ≤ 1000000 := by omega
    have HZ := Lib.hid hSz
    have XW := Lib.hid (whole_any S hSs)
    have HE := Lib.hid hE
    have hs1 := b1.size
    rw [hS]
    clear hL hal hS hSz hE HF
    go_wp2_with fail
    refine (XW.out _).mono ?_
    rintro e w2 ⟨ps, n, vm, rfl, hW, hO, b2⟩
    rw [hSl.out] at hW
    obtain ⟨rfl, rfl⟩ := whole_unique hW HW.out
    have B2 := b1.trans (b2.mono hs1)
    have hO' := own_strs hO
    rw [map_back] at hO'
    have HS := Lib.hid (same_any (by omega) hO' (HV.out.below B2))
    have HE2 := Lib.hid (HE.out.below b2)
    have d0 : (((allF ts).length : Int) != (S.size : Int)) = false := by rw [HZ.out]; simp
    clear hW hO hO'
    go_wp2_with fail
    refine HS.out.mono ?_
    rintro e w3 ⟨rfl, q, rfl⟩
    have hs2 := b2.size
    go_wp2_with fail
    go_loopw [8, 9] (fun at_ p wr => ∃ k : Nat, k ≤ ts.length ∧ p = .int .i64 k ∧ at_ = .int .i64 ((allF (ts.take k)).length : Nat) ∧ Below w2.heap.size w2 wr) (fun _ p _ => ts.length - (intOf p).toNat)
    case atStart => exact ⟨0, by omega, rfl, rfl, below_drewN (Below.refl _ _) q⟩
    case round =>
      obtain ⟨k, hk, rfl, rfl, hB⟩ := hrel
      have hBs := hB.size
      by_cases hlt : k < ts.length
      · have hne : ts ≠ [] := fun h => by rw [h] at hlt; simp at hlt
        obtain ⟨av1, cv1, hve, hc1⟩ := HE2.out
        obtain ⟨g, rfl, hg, hgc⟩ := hc1 hne
        subst hve
        obtain ⟨av2, cv2, hve2, hc2⟩ := HV.out.below B2
        cases hve2
        obtain ⟨b, off, rfl, hbl, hbc⟩ := hc2 hne
        have x1 : wr.cell? ⟨g, k, none⟩ = some (.int .i64 ((allF (ts.take (k + 1))).length : Nat)) := (hB.cell (p := ⟨g, k, none⟩) hg).trans (hgc k hlt)
        have x2 : wr.cell? ⟨b, off + k, none⟩ = some (.string ts[k]) := (hB.cell (p := ⟨b, off + k, none⟩) hbl).trans (hbc k hlt)
        have HX := Lib.hid (next_yes (s := S) hSs (by rw [hSl.out]; exact HN.out k hlt))
        rw [str_self] at HX
        clear hgc hbc hc1 hc2 hne
        generalize ts[k] = t at *
        generalize hm : (allF (ts.take (k + 1))).length = m at *
        have HM := Lib.hid hm
        clear hm
        go_wp2_with fail
        refine (HX.out _).mono ?_
        rintro e w4 ⟨rfl, b4⟩
        have y1 := (b4.cell (p := ⟨g, k, none⟩) (Nat.lt_of_lt_of_le hg hBs)).trans x1
        have y2 := (b4.cell (p := ⟨b, off + k, none⟩) (Nat.lt_of_lt_of_le hbl hBs)).trans x2
        clear x1 x2
        go_wp2
        go_roundw
        case rel => exact ⟨k + 1, by omega, by go_num, by rw [HM.out], hB.trans (b4.mono hBs)⟩
        case measure => simp [intOf]; omega
      · obtain rfl : k = ts.length := by omega
        rw [List.take_length]
        have HX := Lib.hid (next_no (s := S) hSs (a := ((allF ts).length : Nat)) (by rw [hSl.out]; exact HEnd.out))
        go_wp2_with fail
        refine (HX.out _).mono ?_
        rintro e w4 ⟨rfl, b4⟩
        have B4 := (B2.trans (hB.mono B2.size)).trans (b4.mono (B2.trans (hB.mono B2.size)).size)
        go_wp2_with fail
        refine (works_any _).mono ?_
        rintro e w5 ⟨rfl, b5⟩
        go_wp2
        go_ret
        exact ⟨rfl, B4.trans (b5.mono B4.size)⟩
  · go_wp2_with fail
    refine (works_any _).mono ?_
    rintro e w2 ⟨rfl, b2⟩
    go_wp2
    go_ret
    exact ⟨rfl, b1.trans (b2.mono b1.size)⟩
end Go.Proofs.Ytcgiceebcombeaa
