/- Walk of layer 3: FramesTorn. -/
import Derived.Test.YtcgiceebcombeaaC3j
namespace Go.Proofs.Ytcgiceebcombeaa
open Go.RowKit

/-- Of a frame that is cut off nothing is found. -/
theorem torn_none (x p : List UInt8) (hpz : p.length ≤ 8192) (j : Nat) (hj : j < (frameL p).length) : nextL (x ++ (frameL p).take j) (x.length : Nat) = none := by
  cases h : nextL (x ++ (frameL p).take j) (x.length : Nat) with
  | none => rfl
  | some y =>
    obtain ⟨q, m⟩ := y
    obtain ⟨_, h8, hm, hml, ht⟩ := frame_next h
    rw [Int.toNat_natCast, List.drop_left, List.take_take] at ht
    rw [Int.toNat_natCast] at hm
    rw [List.length_append, List.length_take] at hml
    have hmin : min (frameL q).length j = (frameL q).length := by omega
    rw [hmin] at ht
    have e : frameL q ++ (frameL p).drop (frameL q).length = frameL p := by
      conv => lhs; lhs; rw [← ht]
      exact List.take_append_drop _ _
    unfold frameL at e
    simp only [List.append_assoc] at e
    have := (Marks.put_inj ⟨by omega, by omega⟩ ⟨by omega, by omega⟩ e).1
    have hl := frame_len q
    rw [this] at hl
    have hl2 := frame_len p
    omega
theorem torn_whole {ts : List ByteArray} (hL : Little ts) (k cut : Nat) (hk : k ≤ ts.length) (h1 : (allF (ts.take k)).length ≤ cut) (hc : cut ≤ (allF ts).length) (h2 : k = ts.length ∨ cut < (allF (ts.take (k + 1))).length) :
    WholeL ((allF ts).take cut) ((ts.take k).map fun t => t.data.toList) (allF (ts.take k)).length := by
  by_cases hlt : k < ts.length
  · obtain ⟨y, hy⟩ := all_part ts k hlt
    have h3 : cut < (allF (ts.take (k + 1))).length := by omega
    rw [all_take ts k hlt, List.length_append] at h3
    have e : (allF ts).take cut = allF (ts.take k) ++ (frameL ts[k].data.toList).take (cut - (allF (ts.take k)).length) := by
      rw [hy, List.take_append, List.take_of_length_le h1, List.take_append]
      rw [show cut - (allF (ts.take k)).length - (frameL ts[k].data.toList).length = 0 by omega, List.take_zero, List.append_nil]
    rw [e]
    refine ⟨?_, torn_none _ _ (by rw [bytes_len]; have := hL _ (List.getElem_mem hlt); omega) _ (by omega)⟩
    have := chain_frames (ts.take k) (little_take hL k) [] ((frameL ts[k].data.toList).take (cut - (allF (ts.take k)).length))
    rw [List.nil_append, List.length_nil, Nat.zero_add] at this
    exact this
  · obtain rfl : k = ts.length := by omega
    rw [List.take_length] at h1 ⊢
    obtain rfl : cut = (allF ts).length := by omega
    rw [List.take_length]
    exact whole_frames hL
theorem strs_take {w : World} {ts : List ByteArray} {ad : Option Addr} {cap : Nat} (h : StrsAt w (.slice ad ts.length cap) ts) (k : Nat) (hk : k ≤ ts.length) : StrsAt w (.slice ad k cap) (ts.take k) := by
  obtain ⟨a, c, hv, hc⟩ := h
  cases hv
  have hl : (ts.take k).length = k := by rw [List.length_take]; omega
  refine ⟨ad, cap, by rw [hl], fun hne => ?_⟩
  obtain ⟨b, off, ha, hb, hcell⟩ := hc (fun e => hne (by rw [e]; simp))
  refine ⟨b, off, ha, hb, fun j hj => ?_⟩
  rw [List.getElem_take]
  exact hcell j (by omega)

set_option maxRecDepth 100000 in
set_option maxHeartbeats 4000000 in
theorem framesTorn_walk (ts : List ByteArray) (v : Value) (cut : Int) (_ : ∀ t ∈ ts, t.size ≤ maxLen) (_ : (Lit.int .i64 cut).wf = true) (w : World) (hv0 : StrsIn w v ts) :
    Calls Try.prog 7 #[v, .int .i64 cut] w fun e w' => e = .returned (.bool true) ∧ Below w.heap.size w w' := by
  obtain ⟨hv, hcap⟩ := hv0
  have HF := Lib.hid (framed_any hv)
  have HV := Lib.hid hv
  obtain ⟨av, cv, rfl, _⟩ := hv
  obtain ⟨hlc, hnil⟩ := hcap _ _ _ rfl
  have HNil := Lib.hid hnil
  clear hcap hnil
  go_enter Try.func7, Try.ntmps7
  go_wp2_with fail
  refine HF.out.mono ?_
  rintro e w1 ⟨b1, ⟨h40, hL, ve, rfl, hE⟩ | ⟨_, rfl⟩⟩
  · have hal := all_len ts hL
    have HT := Lib.hid (fun k c hk h1 hc h2 => torn_whole (ts := ts) hL k c hk h1 hc h2)
    obtain ⟨S, hS⟩ : ∃ S, str (allF ts) = S := ⟨_, rfl⟩
    have hSl : Hid (S.data.toList = allF ts) := by rw [← hS]; rfl
    have hSz : Hid (S.size = (allF ts).length) := by rw [← hS, str_size]; rfl
    have hSs : S.size ≤ 1000000 := by rw [hSz.out]; omega
    have HE := Lib.hid hE
    have hs1 := b1.size
    rw [hS]
    clear hL hal hS hE HF
    by_cases hneg : cut < 0
    · go_wp2_with fail
      refine (works_any _).mono ?_
      rintro e w2 ⟨rfl, b2⟩
      go_wp2
      go_ret
      exact ⟨rfl, b1.trans (b2.mono b1.size)⟩
    · obtain ⟨c, rfl⟩ : ∃ c : Nat, cut = (c : Int) := ⟨cut.toNat, by omega⟩
      clear hneg
      by_cases hgt : S.size < c
      · have d0 : decide ((c : Int) < 0) = false := by rw [decide_eq_false_iff_not]; omega
        go_wp2_with fail
        refine (works_any _).mono ?_
        rintro e w2 ⟨rfl, b2⟩
        go_wp2
        go_ret
        exact ⟨rfl, b1.trans (b2.mono b1.size)⟩
      · have d0 : decide ((c : Int) < 0) = false := by rw [decide_eq_false_iff_not]; omega
        have XW := Lib.hid (whole_any (S.extract 0 c) (by rw [ByteArray.size_extract]; omega))
        have hXl : Hid ((S.extract 0 c).data.toList = (allF ts).take c) := by rw [extract_list, List.drop_zero, Nat.sub_zero, hSl.out]; rfl
        go_wp2_with fail
        refine (XW.out _).mono ?_
        rintro e w2 ⟨ps, n, vm, rfl, hW, hO, b2⟩
        rw [hXl.out] at hW
        have B2 := b1.trans (b2.mono hs1)
        have HW := Lib.hid hW
        have HO := Lib.hid (own_strs hO)
        have HE2 := Lib.hid (HE.out.below b2)
        have HV2 := Lib.hid (HV.out.below B2)
        clear hW hO
        obtain ⟨ae, ce, rfl, hce⟩ := HE2.out
        have HCE := Lib.hid hce
        clear hce
        go_wp2_with fail
        go_loop [10, 11] (fun m l => ∃ k : Nat, k ≤ ts.length ∧ m = .int .i64 k ∧ l = .int .i64 ((allF (ts.take k)).length : Nat) ∧ (allF (ts.take k)).length ≤ c) (fun m _ => ts.length - (intOf m).toNat)
        case atStart => exact ⟨0, by omega, rfl, rfl, by simp [allF]⟩
        case round =>
          obtain ⟨k, hk, rfl, rfl, hle⟩ := hrel
          by_cases hin : k < ts.length ∧ (allF (ts.take (k + 1))).length ≤ c
          · obtain ⟨hlt, hle2⟩ := hin
            obtain ⟨g, rfl, hg, hgc⟩ := HCE.out (fun h => by rw [h] at hlt; simp at hlt)
            have x1 := hgc k hlt
            clear hgc
            generalize hm : (allF (ts.take (k + 1))).length = m at *
            have HM := Lib.hid hm
            clear hm
            go_wp2_with fail
            go_round
            case rel => exact ⟨k + 1, by omega, by go_num, by rw [HM.out], by rw [HM.out]; exact hle2⟩
            case measure => simp [intOf]; omega
          · have hend : k = ts.length ∨ c < (allF (ts.take (k + 1))).length := by omega
            obtain ⟨rfl, rfl⟩ := whole_unique HW.out (HT.out k c hk hle (by have := hSz.out; omega) hend)
            have HOm := HO.out
            rw [map_back] at HOm
            have HS := Lib.hid (same_any (by rw [List.length_take]; omega) HOm (strs_take HV2.out k hk))
            clear HOm
            have HI := Lib.hid hin
            clear hin hend
            by_cases hlt : k < ts.length
            · obtain ⟨g, rfl, hg, hgc⟩ := HCE.out (fun h => by rw [h] at hlt; simp at hlt)
              have x1 := hgc k hlt
              have hbig : c < (allF (ts.take (k + 1))).length := by have := HI.out; omega
              clear hgc
              generalize (allF (ts.take (k + 1))).length = m at *
              generalize (allF (ts.take k)).length = m0 at *
              go_wp2_with fail
              refine HS.out.mono ?_
              rintro e w3 ⟨rfl, q, rfl⟩
              go_wp2_with fail
              refine (works_any _).mono ?_
              rintro e w4 ⟨rfl, b4⟩
              go_wp2
              go_ret
              exact ⟨rfl, (below_drewN B2 q).trans (b4.mono (below_drewN B2 q).size)⟩
            · generalize (allF (ts.take k)).length = m0 at *
              go_wp2_with fail
              refine HS.out.mono ?_
              rintro e w3 ⟨rfl, q, rfl⟩
              go_wp2_with fail
              refine (works_any _).mono ?_
              rintro e w4 ⟨rfl, b4⟩
              go_wp2
              go_ret
              exact ⟨rfl, (below_drewN B2 q).trans (b4.mono (below_drewN B2 q).size)⟩
  · go_wp2_with fail
    refine (works_any _).mono ?_
    rintro e w2 ⟨rfl, b2⟩
    go_wp2
    go_ret
    exact ⟨rfl, b1.trans (b2.mono b1.size)⟩
end Go.Proofs.Ytcgiceebcombeaa
