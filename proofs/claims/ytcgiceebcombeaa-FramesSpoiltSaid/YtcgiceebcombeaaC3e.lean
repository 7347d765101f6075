/- The contracts of the reference's frames: Frame, Next. -/
import Derived.Test.YtcgiceebcombeaaC3d
namespace Go.Proofs.Ytcgiceebcombeaa
open Go.RowKit

theorem bv_mod (n : Nat) : bv (UInt8.ofNat n) = .int .u8 ((n : Int) % 256) := by
  unfold bv
  rw [ofNat_val, Int.natCast_emod]
  rfl
theorem tdiv_J (r : Crc.Reg) (k : Nat) : (J r).tdiv (k : Int) % 256 = ((r.toNat / k : Nat) : Int) % 256 := by
  rw [Int.tdiv_eq_ediv_of_nonneg (J_lo r), Int.natCast_ediv]; rfl
theorem conv4 {W : World} {B n : Nat} {t : TypeId} (h : W.heap[B]? = some (.cells #[bv (UInt8.ofNat n), bv (UInt8.ofNat (n / 256)), bv (UInt8.ofNat (n / 65536)), bv (UInt8.ofNat (n / 16777216))] t (0, 0))) :
    (convert 39 9 (.slice (some ⟨B, 0, none⟩) 4 4)).run Try.prog W = .ok (.string (str (le4 n))) W := by
  refine run_convert_bytes_back _ 39 9 5 ⟨B, 0, none⟩ 4 (le4 n) Try.underlying39 Try.underlying5 Try.underlying9 (fun j hj => ?_)
  have hj' : j < 4 := hj
  match j, hj' with
  | 0, _ => simp [Addr.add, World.cell?, h, le4, bv]
  | 1, _ => simp [Addr.add, World.cell?, h, le4, bv]
  | 2, _ => simp [Addr.add, World.cell?, h, le4, bv]
  | 3, _ => simp [Addr.add, World.cell?, h, le4, bv]
theorem refChk_string (r : Crc.Reg) (w : World) : (convert 39 9 (.slice (some ⟨w.heap.size, 0, none⟩) 4 4)).run Try.prog (w.alloc (.cells #[.int .u8 (J r % 256), .int .u8 ((J r).tdiv 256 % 256), .int .u8 ((J r).tdiv 65536 % 256), .int .u8 ((J r).tdiv 16777216 % 256)] 5)) =
    .ok (.string (str (le4 r.toNat))) (w.alloc (.cells #[.int .u8 (J r % 256), .int .u8 ((J r).tdiv 256 % 256), .int .u8 ((J r).tdiv 65536 % 256), .int .u8 ((J r).tdiv 16777216 % 256)] 5)) := by
  have e1 := tdiv_J r 256
  have e2 := tdiv_J r 65536
  have e3 := tdiv_J r 16777216
  have e0 : J r % 256 = ((r.toNat : Nat) : Int) % 256 := rfl
  rw [show ((256 : Nat) : Int) = 256 from rfl] at e1
  rw [show ((65536 : Nat) : Int) = 65536 from rfl] at e2
  rw [show ((16777216 : Nat) : Int) = 16777216 from rfl] at e3
  rw [e0, e1, e2, e3, ← bv_mod, ← bv_mod, ← bv_mod, ← bv_mod]
  exact conv4 (World.alloc_heap_new w _)

set_option maxRecDepth 100000 in
set_option maxHeartbeats 2000000 in
theorem refFrame_yes (s : ByteArray) (hs : s.size ≤ 8192) (w : World) :
    Calls Try.prog 11 #[.string s] w fun e w' => e = .returned (.tuple #[.string (str (frameL s.data.toList)), .int .i64 0]) ∧ Below w.heap.size w w' := by
  have hp := Marks.put_len (s.size : Int)
  have HP := Lib.hid (refPut_any (s.size : Int) (by omega) (by omega))
  have hz : (str (Marks.put s.size)).size ≤ 10 := by rw [str_size]; exact hp.2
  have hz2 : (str (Marks.put s.size) ++ s).size ≤ maxLen := by rw [ByteArray.size_append]; unfold maxLen; omega
  have HC := Lib.hid (refSum_any (str (Marks.put s.size) ++ s) hz2)
  have HE := Lib.hid (frame_str s)
  rw [show chkL (str (Marks.put s.size) ++ s).data.toList = le4 (Crc.sum (str (Marks.put s.size) ++ s).data.toList).toNat from rfl] at HE
  clear hz2 hp
  generalize Crc.sum (str (Marks.put s.size) ++ s).data.toList = r at *
  have j0 := J_lo r
  generalize str (Marks.put s.size) = mk at *
  generalize frameL s.data.toList = fr at *
  go_enter Try.func11, Try.ntmps11
  go_wp2_with fail
  refine (HP.out _).mono ?_
  rintro e w1 ⟨rfl, b1⟩
  go_wp2_with fail
  refine (HC.out _).mono ?_
  rintro e w2 ⟨rfl, rfl⟩
  have hcv := refChk_string r w1
  have hz3 : (str (le4 r.toNat)).size ≤ 4 := Nat.le_refl _
  have HV := Lib.hid (show Below w1.heap.size w1 (w1.alloc (.cells #[.int .u8 (J r % 256), .int .u8 ((J r).tdiv 256 % 256), .int .u8 ((J r).tdiv 65536 % 256), .int .u8 ((J r).tdiv 16777216 % 256)] 5)) from (Below.refl _ _).alloc (Nat.le_refl _) _)
  generalize str (le4 r.toNat) = ck at *
  have hz4 : (mk ++ ck).size ≤ 14 := by rw [ByteArray.size_append]; omega
  go_wp2
  rw [HE.out]
  go_ret2
  exact ⟨rfl, b1.trans (HV.out.mono b1.size)⟩
theorem refFrame_no (s : ByteArray) (hs : 8192 < s.size) (w : World) :
    Calls Try.prog 11 #[.string s] w fun e w' => e = .returned (.tuple #[.string ⟨#[]⟩, .int .i64 3]) ∧ w = w' := by
  go_enter Try.func11, Try.ntmps11
  go_wp2
  go_ret2
  exact ⟨rfl, rfl⟩

theorem frame_is (s : ByteArray) (c q k : Nat) (hk : s.size ≥ q + 4 + k) (hq : c ≤ q) (hM : (s.data.toList.drop c).take (q - c) = Marks.put k) :
    (chkL ((s.data.toList.drop c).take (q - c) ++ (s.data.toList.drop (q + 4)).take k) = (s.data.toList.drop q).take 4) ↔ frameL ((s.data.toList.drop (q + 4)).take k) = (s.data.toList.drop c).take (q + 4 + k - c) := by
  have hl : ((s.data.toList.drop (q + 4)).take k).length = k := by rw [List.length_take, List.length_drop, bytes_len]; omega
  unfold frameL
  rw [hl, hM, show q + 4 + k - c = (q - c) + (4 + k) by omega, List.take_add, hM, List.append_assoc, List.append_cancel_left_eq, List.drop_drop, show c + (q - c) = q by omega, List.take_add, List.drop_drop]
  constructor
  · intro h; rw [h]
  · intro h; exact List.append_cancel_right h

set_option maxRecDepth 100000 in
set_option maxHeartbeats 4000000 in
theorem refNext_yes {s : ByteArray} (hs : s.size ≤ 1000000) {a : Int} {p : List UInt8} {m : Nat} (h : nextL s.data.toList a = some (p, m)) (w : World) :
    Calls Try.prog 14 #[.string s, .int .i64 a] w fun e w' => e = .returned (.tuple #[.string (str p), .int .i64 (m : Int), .bool true]) ∧ Below w.heap.size w w' := by
  have hm : s.size ≤ maxLen := by unfold maxLen; omega
  cases hg : getI s.data.toList a with
  | none => rw [next_none hg] at h; cases h
  | some x =>
    obtain ⟨n, q⟩ := x
    have HG := Lib.hid (refGet_yes hm hg)
    obtain ⟨b1, b2, b3, b4, b5, b6, b7⟩ := getI_bounds hg
    by_cases hn : n < 0 ∨ 8192 < n ∨ (s.data.toList.length : Int) < q + 4 + n
    · rw [nextL_bad hg hn] at h; cases h
    · obtain ⟨k, rfl⟩ : ∃ k : Nat, n = (k : Int) := ⟨n.toNat, by omega⟩
      obtain ⟨c, rfl⟩ : ∃ c : Nat, a = (c : Int) := ⟨a.toNat, by omega⟩
      rw [bytes_len] at b4 hn
      rw [Int.toNat_natCast] at b7
      rw [nextL_is hg (by omega) (by rw [bytes_len]; omega), Int.toNat_natCast] at h
      by_cases hc : chkL ((s.data.toList.drop c).take (q - c) ++ (s.data.toList.drop (q + 4)).take k) = (s.data.toList.drop q).take 4
      · rw [if_pos hc] at h
        simp only [Option.some.injEq, Prod.mk.injEq] at h
        obtain ⟨e1, e2⟩ := h
        have hf := (frame_is s c q k (by omega) (by omega) b7).1 hc
        have hps : s.extract (q + 4) (q + 4 + k) = str p := by rw [extract_str, show q + 4 + k - (q + 4) = k by omega, e1]
        rw [e1] at hf
        have hpl : (str p).size ≤ 8192 := by rw [str_size, ← e1, List.length_take, List.length_drop, bytes_len]; omega
        have XC := Lib.hid (refFrame_yes (str p) hpl)
        have hck : (!((str (frameL (str p).data.toList)).toList == (s.extract c (q + 4 + k)).toList)) = false := by
          rw [str_eq_iff, Bool.not_eq_false', beq_iff_eq, extract_list]; exact hf
        have HP := Lib.hid hps
        have HM := Lib.hid (show (q : Int) + 4 + k = (m : Int) by omega)
        generalize str (frameL (str p).data.toList) = fr at *
        clear hg hc e1 e2 b7 hf hps
        go_enter Try.func14, Try.ntmps14
        go_wp2_with fail
        refine (HG.out _).mono ?_
        rintro e w1 ⟨rfl, g1⟩
        go_wp2_with fail
        rw [HP.out]
        refine (XC.out _).mono ?_
        rintro e w2 ⟨rfl, g2⟩
        go_wp2
        rw [HM.out]
        go_ret3
        exact ⟨rfl, g1.trans (g2.mono g1.size)⟩
      · rw [if_neg hc] at h; cases h

set_option maxRecDepth 100000 in
set_option maxHeartbeats 4000000 in
theorem refNext_no {s : ByteArray} (hs : s.size ≤ 1000000) {a : Int} (h : nextL s.data.toList a = none) (w : World) :
    Calls Try.prog 14 #[.string s, .int .i64 a] w fun e w' => e = .returned (.tuple #[.string ⟨#[]⟩, .int .i64 0, .bool false]) ∧ Below w.heap.size w w' := by
  have hm : s.size ≤ maxLen := by unfold maxLen; omega
  cases hg : getI s.data.toList a with
  | none =>
    have HG := Lib.hid (refGet_no hm hg)
    clear hg h
    go_enter Try.func14, Try.ntmps14
    go_wp2_with fail
    refine (HG.out _).mono ?_
    rintro e w1 ⟨rfl, g1⟩
    go_wp2
    go_ret3
    exact ⟨rfl, g1⟩
  | some x =>
    obtain ⟨n, q⟩ := x
    have HG := Lib.hid (refGet_yes hm hg)
    obtain ⟨b1, b2, b3, b4, b5, b6, b7⟩ := getI_bounds hg
    rw [bytes_len] at b4
    by_cases hn : n < 0
    · clear hg h b7
      go_enter Try.func14, Try.ntmps14
      go_wp2_with fail
      refine (HG.out _).mono ?_
      rintro e w1 ⟨rfl, g1⟩
      go_wp2
      go_ret3
      exact ⟨rfl, g1⟩
    · have d1 : decide (n < 0) = false := decide_eq_false hn
      by_cases hn2 : 8192 < n
      · clear hg h b7
        go_enter Try.func14, Try.ntmps14
        go_wp2_with fail
        refine (HG.out _).mono ?_
        rintro e w1 ⟨rfl, g1⟩
        go_wp2
        go_ret3
        exact ⟨rfl, g1⟩
      · have d2 : decide (8192 < n) = false := decide_eq_false hn2
        obtain ⟨k, rfl⟩ : ∃ k : Nat, n = (k : Int) := ⟨n.toNat, by omega⟩
        by_cases hl : s.size < q + 4 + k
        · clear hg h b7
          go_enter Try.func14, Try.ntmps14
          go_wp2_with fail
          refine (HG.out _).mono ?_
          rintro e w1 ⟨rfl, g1⟩
          go_wp2
          go_ret3
          exact ⟨rfl, g1⟩
        · have d3 : decide ((s.size : Int) - q - 4 < k) = false := by rw [decide_eq_false_iff_not]; omega
          obtain ⟨c, rfl⟩ : ∃ c : Nat, a = (c : Int) := ⟨a.toNat, by omega⟩
          rw [nextL_is hg (by omega) (by rw [bytes_len]; omega), Int.toNat_natCast] at h
          rw [Int.toNat_natCast] at b7
          have hne : ¬ chkL ((s.data.toList.drop c).take (q - c) ++ (s.data.toList.drop (q + 4)).take k) = (s.data.toList.drop q).take 4 := fun hc => by rw [if_pos hc] at h; cases h
          rw [frame_is s c q k (by omega) (by omega) b7] at hne
          have hps : s.extract (q + 4) (q + 4 + k) = str ((s.data.toList.drop (q + 4)).take k) := by rw [extract_str, show q + 4 + k - (q + 4) = k by omega]
          have hpl : (str ((s.data.toList.drop (q + 4)).take k)).size ≤ 8192 := by rw [str_size, List.length_take, List.length_drop, bytes_len]; omega
          have XC := Lib.hid (refFrame_yes (str ((s.data.toList.drop (q + 4)).take k)) hpl)
          have hck : (!((str (frameL (str ((s.data.toList.drop (q + 4)).take k)).data.toList)).toList == (s.extract c (q + 4 + k)).toList)) = true := by
            rw [str_eq_iff, Bool.not_eq_true', beq_eq_false_iff_ne, extract_list]; exact hne
          have HP := Lib.hid hps
          generalize str (frameL (str ((s.data.toList.drop (q + 4)).take k)).data.toList) = fr at *
          generalize str ((s.data.toList.drop (q + 4)).take k) = p at *
          clear hg h b7 hne hps
          go_enter Try.func14, Try.ntmps14
          go_wp2_with fail
          refine (HG.out _).mono ?_
          rintro e w1 ⟨rfl, g1⟩
          go_wp2_with fail
          rw [HP.out]
          refine (XC.out _).mono ?_
          rintro e w2 ⟨rfl, g2⟩
          go_wp2
          go_ret3
          exact ⟨rfl, g1.trans (g2.mono g1.size)⟩
end Go.Proofs.Ytcgiceebcombeaa
