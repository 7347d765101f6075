/- The walk of ChecksTurned: a text whose bits are turned over in a copy. -/
import Derived.Test.YtbmlokbgbbilfaaC2d
import Derived.Laws.IdiomStrings
namespace Go.Proofs.Ytbmlokbgbbilfaa
open Go.RowKit

/-- The copy's bytes when j bits have been turned: how far its register is apart from the text's. -/
def Turning (w wr : World) (s : ByteArray) (b : Int) (k j : Nat) : Prop :=
  ∃ l : List UInt8, l.length = s.size ∧ (∀ t (h : t < l.length), wr.cell? ⟨w.heap.size, t, none⟩ = some (.int .u8 (l[t].toNat : Int))) ∧ (∀ t, t < l.length → wr.frozen? ⟨w.heap.size, t, none⟩ = false) ∧
    Below w.heap.size w wr ∧ Crc.fwd (~~~0#32) l = Crc.fwd (~~~0#32) s.data.toList ^^^ Crc.steps (8 * s.size - k) (Crc.low (R b) j)

theorem turning_start (w : World) (s : ByteArray) (b : Int) (k c : Nat) : Turning w (w.alloc (.cells (bytesRow s c) 5 ((bytesRow s c).size, (bytesRow s c).size + 1))) s b k 0 := by
  refine ⟨s.data.toList, bytes_len s, ?_, ?_, (Below.refl _ _).alloc (Nat.le_refl _) _, by rw [Crc.low_zero, Crc.steps_zero]; simp⟩
  · intro t h
    rw [World.cell?_alloc_mark, bytesRow_at s c t (by rw [bytes_len] at h; exact h)]
    simp
  · intro t h
    rw [World.frozen?_alloc_mark]
    have : t < (bytesRow s c).size := by
      unfold bytesRow
      rw [Array.size_append, Array.size_map]
      rw [bytes_len] at h
      have : s.data.size = s.size := rfl
      omega
    simp; omega

theorem cell_add {wr : World} {B j : Nat} {v : Value} (h : wr.cell? ⟨B, j, none⟩ = some v) : wr.cell? ((⟨B, 0, none⟩ : Addr).add j) = some v := by
  by_cases e : j = 0
  · subst e; simpa [Addr.add] using h
  · simpa [Addr.add, e] using h

theorem Turning.drew {w wr : World} {s : ByteArray} {b : Int} {k j : Nat} (h : Turning w wr s b k j) : Turning w wr.drew s b k j := by
  obtain ⟨l, h1, h2, h3, h4, h5⟩ := h
  exact ⟨l, h1, h2, h3, h4.drew, h5⟩

/-- What a round stores. -/
theorem turned_byte (x : UInt8) (b : Int) (j m : Nat) (hm : m < 8) (b0 : 0 ≤ b) (b1 : b < 4294967296) :
    ∃ y : UInt8, y.toNat = (if (R b).getLsbD j then 2 ^ m else 0) ∧
      bits .xor .u8 (x.toNat : Int) (bits .and .u32 (b / 2 ^ j) 1 % 256 * 2 ^ m % 256) = ((x ^^^ y).toNat : Int) ∨ 32 ≤ j := by
  by_cases hj : 32 ≤ j
  · exact ⟨0, .inr hj⟩
  obtain ⟨B, rfl⟩ := Int.eq_ofNat_of_zero_le b0
  have hB : B < 4294967296 := by omega
  have e1 : ((B : Int) / 2 ^ j) = ((B / 2 ^ j : Nat) : Int) := by simp
  have hd : B / 2 ^ j < 4294967296 := Nat.lt_of_le_of_lt (Nat.div_le_self _ _) hB
  have e2 : bits .and .u32 ((B / 2 ^ j : Nat) : Int) 1 = ((B / 2 ^ j % 2 : Nat) : Int) := by
    have := u32_and_nat (B / 2 ^ j) 1 hd (by omega)
    rw [Nat.and_one_is_mod] at this
    exact this
  have hm2 : 2 ^ m < 256 := Nat.lt_of_lt_of_le (Nat.pow_lt_pow_right (by decide) hm) (by decide)
  have hc : B / 2 ^ j % 2 = 0 ∨ B / 2 ^ j % 2 = 1 := by omega
  have e3 : (((B / 2 ^ j % 2 : Nat) : Int) % 256 * 2 ^ m % 256) = ((B / 2 ^ j % 2 * 2 ^ m : Nat) : Int) := by
    have e4 : (2 : Int) ^ m = ((2 ^ m : Nat) : Int) := by simp
    rw [e4]
    rcases hc with h | h <;> rw [h] <;> omega
  have hbit : (R (B : Int)).getLsbD j = decide (B / 2 ^ j % 2 = 1) := by
    unfold R
    rw [Int.toNat_natCast, BitVec.getLsbD_ofNat, Nat.testBit_eq_decide_div_mod_eq]
    simp; omega
  have hy : (UInt8.ofNat (B / 2 ^ j % 2 * 2 ^ m)).toNat = B / 2 ^ j % 2 * 2 ^ m := by
    rw [UInt8.toNat_ofNat']
    refine Nat.mod_eq_of_lt ?_
    rcases hc with h | h <;> rw [h] <;> omega
  refine ⟨UInt8.ofNat (B / 2 ^ j % 2 * 2 ^ m), .inl ⟨?_, ?_⟩⟩
  · rw [hy, hbit]
    rcases hc with h | h <;> rw [h] <;> simp
  · rw [e1, e2, e3, u8_xor_nat _ _ x.toNat_lt (by rw [← hy]; exact UInt8.toNat_lt _), UInt8.toNat_xor, hy]

theorem turning_round {w wr : World} {s : ByteArray} {b : Int} {k j : Nat} (b0 : 0 ≤ b) (b1 : Hid (b < 4294967296)) (hj : j < 32) (hk : k + 31 < 8 * s.size) {l : List UInt8} (hl : l.length = s.size) (hq : (k + j) / 8 < l.length)
    (hc : ∀ t (h : t < l.length), wr.cell? ⟨w.heap.size, t, none⟩ = some (.int .u8 (l[t].toNat : Int))) (hf : ∀ t, t < l.length → wr.frozen? ⟨w.heap.size, t, none⟩ = false)
    (hB : Below w.heap.size w wr) (hF : Crc.fwd (~~~0#32) l = Crc.fwd (~~~0#32) s.data.toList ^^^ Crc.steps (8 * s.size - k) (Crc.low (R b) j)) :
    Turning w (wr.setCell ⟨w.heap.size, (k + j) / 8, none⟩ (.int .u8 (bits .xor .u8 (l[(k + j) / 8].toNat : Int) (bits .and .u32 (b / 2 ^ j) 1 % 256 * 2 ^ ((k + j) % 8) % 256)))) s b k (j + 1) := by
  obtain ⟨y, h⟩ := turned_byte l[(k + j) / 8] b j ((k + j) % 8) (Nat.mod_lt _ (by decide)) b0 b1.out
  rcases h with ⟨hy, hv⟩ | h
  · rw [hv]
    refine ⟨l.set ((k + j) / 8) (l[(k + j) / 8] ^^^ y), by rw [List.length_set, hl], ?_, ?_, hB.setCell (p := ⟨w.heap.size, _, none⟩) (Nat.le_refl _) _, ?_⟩
    · intro t ht
      by_cases e : t = (k + j) / 8
      · subst e
        rw [World.cell?_setCell_same' _ _ _ (by rw [hc _ hq]; rfl)]
        simp
      · rw [World.cell?_setCell_other _ _ _ _ (by simp)]
        rw [hc t (by simpa using ht)]
        simp [Ne.symm e]
    · intro t ht
      rw [World.frozen?_setCell]
      exact hf t (by simpa using ht)
    · have hsl := bytes_len s
      rw [← hsl]
      exact Crc.turn_round l s.data.toList (~~~0#32) (R b) k j hj (by rw [hsl]; exact hk) (by rw [hsl]; exact hl) y hy (by rw [hsl]; exact hF) hq
  · omega

set_option maxRecDepth 100000 in
set_option maxHeartbeats 1000000 in
theorem checksTurned_walk (s : ByteArray) (a b : Int) (hs : s.size ≤ maxLen) (ha : (Lit.int .u32 a).wf = true) (hb : (Lit.int .u32 b).wf = true) (w : World) :
    Calls Try.prog 8 #[.string s, .int .u32 a, .int .u32 b] w fun e w' => e = .returned (.bool true) ∧ Below w.heap.size w w' := by
  have a0 := u32_lo ha
  have b0 := u32_lo hb
  have a1 := u32_hi ha
  have b1 := u32_hi hb
  clear ha hb
  by_cases hlen : 4 ≤ s.size ∧ s.size ≤ 20000
  · obtain ⟨h4, h2⟩ := hlen
    have Hs := Lib.hid hs
    clear hs
    have hcv := fun (w : World) => run_bytes_of_string (P := Try.prog) w 9 30 5 s Try.underlying9 Try.underlying30 Try.underlying5
    have K : ∃ k : Nat, (wrap64 a).tmod (8 * (s.size : Int) - 31) = (k : Int) ∧ k + 31 < 8 * s.size := by
      have e : wrap64 a = a := by have := a1.out; exact IntWalk.wrap64_in a ⟨by omega, by omega⟩
      have h5 : 0 ≤ a.tmod (8 * (s.size : Int) - 31) := Int.tmod_nonneg _ a0
      have h6 : a.tmod (8 * (s.size : Int) - 31) < 8 * (s.size : Int) - 31 := Int.tmod_lt_of_pos _ (by omega)
      exact ⟨(a.tmod (8 * (s.size : Int) - 31)).toNat, by rw [e]; omega, by omega⟩
    obtain ⟨k, hk, hk2⟩ := K
    have Hk := Lib.hid hk
    clear hk
    go_enter Try.func8, Try.ntmps8
    go_wp2
    rw [Hk.out]
    go_loopw [9] (fun i wr => ∃ j : Nat, j ≤ 32 ∧ i = .int .i64 j ∧ Turning w wr s b k j) (fun i _ => 32 - (intOf i).toNat)
    case atStart => exact ⟨0, Nat.zero_le _, rfl, (turning_start w s b k _).drew⟩
    case round =>
      obtain ⟨j, hj, rfl, hT⟩ := hrel
      by_cases hlt : j < 32
      · obtain ⟨l, hl, hc, hf, hB, hF⟩ := hT
        have hq : (k + j) / 8 < l.length := by rw [hl]; omega
        have hcx := hc ((k + j) / 8) hq
        have hfx := hf ((k + j) / 8) hq
        have HC := Lib.hid hc
        have HF := Lib.hid hf
        have HF2 := Lib.hid hF
        clear hc hf hF
        have HL := Lib.hid hl
        clear hl
        go_wp2
        go_roundw
        case rel => exact ⟨j + 1, by omega, by go_num, turning_round b0 b1 hlt hk2 HL.out hq HC.out HF.out hB HF2.out⟩
        case measure => simp [intOf]; omega
      · obtain rfl : j = 32 := by omega
        obtain ⟨l, hl, hc, hf, hB, hF⟩ := hT
        have hcb := run_convert_bytes_back (P := Try.prog) wr 30 9 5 ⟨w.heap.size, 0, none⟩ (grownCap w s.size 0 5) l Try.underlying30 Try.underlying5 Try.underlying9
          (fun j hj => cell_add (hc j hj))
        rw [hl] at hcb
        have Hz := Lib.hid (show (ByteArray.mk l.toArray).size ≤ maxLen by show l.toArray.size ≤ _; rw [List.size_toArray, hl]; exact Hs.out)
        obtain ⟨p, hp⟩ : ∃ p, Crc.sum l = p := ⟨_, rfl⟩
        obtain ⟨q, hq⟩ : ∃ q, Crc.sum s.data.toList = q := ⟨_, rfl⟩
        have hsl := bytes_len s
        have E : (J p != J q) = (b != 0) := by
          rw [Bool.eq_iff_iff, bne_iff_ne, bne_iff_ne, ← hp, ← hq]
          rw [← hsl] at hF
          have h1 := Crc.turned l s.data.toList (~~~0#32) (R b) k hF
          refine not_congr ?_
          constructor
          · intro h
            have h2 := h1.1 ((Crc.sum_eq_iff _ _).1 (J_inj h))
            rw [← J_R b b0 b1.out, h2, J_zero]
          · intro h
            rw [(Crc.sum_eq_iff _ _).2 (h1.2 (by rw [h]; rfl))]
        obtain ⟨t, ht⟩ : ∃ t, (b != 0) = t := ⟨_, rfl⟩
        rw [ht] at E
        have Hp := Lib.hid (show J (Crc.sum (ByteArray.mk l.toArray).data.toList) = J p by rw [← hp])
        have Hq := Lib.hid (show J (Crc.sum s.data.toList) = J q by rw [← hq])
        clear hl hc hf hF hp hq hsl
        go_wp2_with fail
        refine (sum_lit _ (J p) Hz.out Hp.out _).mono ?_
        rintro e w' ⟨rfl, rfl⟩
        go_wp2_with fail
        refine (sum_lit _ (J q) Hs.out Hq.out _).mono ?_
        rintro e w' ⟨rfl, rfl⟩
        go_wp2_with fail
        refine (works_any _).mono ?_
        rintro e w3 ⟨rfl, hb3⟩
        go_wp2
        go_ret
        exact ⟨rfl, hB.trans (hb3.mono hB.size)⟩
  · by_cases k1 : s.size ≤ 20000
    · have k3 : s.size < 4 := Nat.lt_of_not_le fun k3 => hlen ⟨k3, k1⟩
      clear hlen
      go_enter Try.func8, Try.ntmps8
      go_wp2_with fail
      refine (works_any _).mono ?_
      rintro e w3 ⟨rfl, hb3⟩
      go_wp2
      go_ret
      exact ⟨rfl, hb3⟩
    · clear hlen
      go_enter Try.func8, Try.ntmps8
      go_wp2_with fail
      refine (works_any _).mono ?_
      rintro e w3 ⟨rfl, hb3⟩
      go_wp2
      go_ret
      exact ⟨rfl, hb3⟩
end Go.Proofs.Ytbmlokbgbbilfaa
