/- mail.Decode. (Printed by wip/src/XC11p.py.) -/
import Derived.Test.YtnekpehgaojkaaaDoorC11n
import Derived.Test.YtnekpehgaojkaaaDoorC11r
import Derived.Deep.MidRow
namespace Go.Proofs.YtnekpehgaojkaaaDoor
open Go.RowKit

theorem res_cell2 {P : Program} {fn : Func} {tmps : Array Value} {w : World} {a k : Nat} {t : TypeId} {p : Addr} {v u : Value} (h : fn.results = #[.cell a t, .tmp k]) (ha : tmps.getD a undef = .pointer (some p)) (hl : (loadVar t p).run P w = .ok v w) (hk : tmps.getD k undef = u) :
    (results fn tmps).run P w = .ok (.tuple #[v, u]) w := by
  unfold results
  rw [h]
  have ha' : tmps[a]?.getD undef = .pointer (some p) := by simpa using ha
  have hk' : tmps[k]?.getD undef = u := by simpa using hk
  simp [ha', hk', asAddr, hl, Result.andThen_ok]
/-- The memory that Decode begins with. -/
theorem decM_world (w : World) (s : ByteArray) : ∃ w4, ((((w.alloc (.cells noneM 28)).alloc (.cells (rdCells s 0 false) 58)).alloc
      (.cells noneM 28)).alloc (.cells (ptrs (w.heap.size + 1 + 1) [0, 1, 2, 3, 4, 5, 6, 7, 8]).toArray 60)) = w4 ∧ Below w.heap.size w w4 ∧ w4.heap.size = w.heap.size + 4 ∧
    w4.heap[w.heap.size]? = some (.cells noneM 28 (0, 0)) ∧ w4.heap[w.heap.size + 1]? = some (.cells (rdCells s 0 false) 58 (0, 0)) ∧
    w4.heap[w.heap.size + 1 + 1]? = some (.cells noneM 28 (0, 0)) ∧ ∀ j (h : j < [0, 1, 2, 3, 4, 5, 6, 7, 8].length), w4.cell? ⟨w.heap.size + 3, 0 + j, none⟩ = some (.pointer (some ⟨w.heap.size + 1 + 1, [0, 1, 2, 3, 4, 5, 6, 7, 8][j], none⟩)) := by
  obtain ⟨w1, e1, b1, s1, h1⟩ := boxed w noneM 28
  obtain ⟨w2, e2, b2, s2, h2⟩ := boxed w1 (rdCells s 0 false) 58
  obtain ⟨w3, e3, b3, s3, h3⟩ := boxed w2 noneM 28
  obtain ⟨w4, e4, b4, s4, h4⟩ := ptrs_built w3 (w.heap.size + 1 + 1) [0, 1, 2, 3, 4, 5, 6, 7, 8] 60
  rw [e1, e2, e3, e4]
  rw [s1] at h2
  rw [s2, s1] at h3
  rw [s3, s2, s1] at h4
  refine ⟨w4, rfl, b1.trans ((b2.mono b1.size).trans ((b3.mono (by omega)).trans (b4.mono (by omega)))), by omega, ?_, ?_, ?_, h4⟩
  · rw [b4.block _ (by omega), b3.block _ (by omega), b2.block _ (by omega)]; exact h1
  · rw [b4.block _ (by omega), b3.block _ (by omega)]; exact h2
  · rw [b4.block _ (by omega)]; exact h3
/-- What Decode answers: a message whose entries are its own, or a refusal. -/
def DecMOut (w : World) (o : Option (MNum × List Ent)) (e : Ending) (w' : World) : Prop :=
  Below w.heap.size w w' ∧ (o = none → e = .returned (.tuple #[.agg noneM, .int .i64 30])) ∧
  ∀ x, o = some x → ∃ a7 c7, e = .returned (.tuple #[.agg (mailCells x.1 (.slice a7 x.2.length c7)), .int .i64 0]) ∧ w'.ownsRow w.heap.size 30 6 (.slice a7 x.2.length c7) x.2.length (entVals x.2)

set_option maxRecDepth 100000 in
set_option maxHeartbeats 8000000 in
theorem decodeM_any {s : ByteArray} (hs : s.size ≤ 900000) {w : World} (hK : KindsAt w) (n : Int) :
    Calls Tryd.prog 15 #[.string s, .int .i64 n] w (DecMOut w (decM s.data.toList n)) := by
  obtain ⟨w5, e5, b5, s5, d5, r5, x5, p5⟩ := decM_world w s
  have E5 := Lib.hid (show ((((w.alloc (.cells #[.int .i64 0, .int .i64 0, .int .i64 0, .int .i64 0, .int .i64 0, .int .i64 0, .int .i64 0, .int .i64 0, .int .i64 0, .slice none 0 0, .int .i64 0, .int .i64 0, .int .i64 0, .int .i64 0, .int .i64 0, .int .i64 0, .int .i64 0, .int .i64 0] 28)).alloc (.cells #[.string s, .int .i64 0, .bool false] 58)).alloc
      (.cells #[.int .i64 0, .int .i64 0, .int .i64 0, .int .i64 0, .int .i64 0, .int .i64 0, .int .i64 0, .int .i64 0, .int .i64 0, .slice none 0 0, .int .i64 0, .int .i64 0, .int .i64 0, .int .i64 0, .int .i64 0, .int .i64 0, .int .i64 0, .int .i64 0] 28)).alloc (.cells #[.pointer (some ⟨w.heap.size + 1 + 1, 0, none⟩), .pointer (some ⟨w.heap.size + 1 + 1, 1, none⟩), .pointer (some ⟨w.heap.size + 1 + 1, 2, none⟩), .pointer (some ⟨w.heap.size + 1 + 1, 3, none⟩), .pointer (some ⟨w.heap.size + 1 + 1, 4, none⟩), .pointer (some ⟨w.heap.size + 1 + 1, 5, none⟩), .pointer (some ⟨w.heap.size + 1 + 1, 6, none⟩), .pointer (some ⟨w.heap.size + 1 + 1, 7, none⟩), .pointer (some ⟨w.heap.size + 1 + 1, 8, none⟩)] 60)) = w5 from e5)
  have HX := Lib.hid (rints_any (R := w.heap.size + 1) (T := w.heap.size + 1 + 1) (g := w.heap.size + 3) (off := 0) (cap := 9) (os := [0, 1, 2, 3, 4, 5, 6, 7, 8]) (Nat.le_trans hs (by decide)) r5 x5 (by omega) (by omega) (by omega) (by omega)
    (by intro o ho; simp at ho; rcases ho with rfl | rfl | rfl | rfl | rfl | rfl | rfl | rfl | rfl <;> exact ⟨0, rfl⟩) (by decide) p5)
  have hq : ([0, 1, 2, 3, 4, 5, 6, 7, 8] : List Nat).length = 9 := rfl
  rw [hq] at HX
  obtain ⟨X, hX⟩ : ∃ X, decM s.data.toList n = X := ⟨_, rfl⟩
  rw [hX]
  have hl9 := rdL_len s.data.toList 9 0 false
  have hp9 := rdL_pos (s := s.data.toList) 9 0 false (Nat.zero_le _)
  have hN := fun a b a2 b2 => mkM_ok s.data.toList 9 0 5 a 3 a2 false b b2
  rw [bytes_len] at hp9
  generalize hP : rdL s.data.toList 9 0 false = p at *
  have hpe := rdEntL_pos (s := s.data.toList) p.2.1 p.2.2 (by rw [bytes_len]; exact hp9.2.1)
  have hle := rdEntL_len (s := s.data.toList) p.2.1 p.2.2 (by rw [bytes_len]; exact hp9.2.1)
  have HEO := Lib.hid (show EntsOk (rdEntL s.data.toList p.2.1 p.2.2).1 from rdEnts_ok _ _ _ _)
  rw [bytes_len] at hpe hle
  generalize hQ : rdEntL s.data.toList p.2.1 p.2.2 = q at *
  have HQQ := Lib.hid hQ
  have hl5 := rdL_len s.data.toList 5 q.2.1 q.2.2
  replace hN := fun a2 b2 => hN q.2.1 q.2.2 a2 b2
  generalize hO : rdL s.data.toList 5 q.2.1 q.2.2 = o at *
  have HOQ := Lib.hid hO
  have hl3 := rdL_len s.data.toList 3 o.2.1 o.2.2
  replace hN := hN o.2.1 o.2.2
  generalize hY : rdL s.data.toList 3 o.2.1 o.2.2 = y at *
  have HYQ := Lib.hid hY
  have HN := Lib.hid hN
  have HD := Lib.hid (hX.symm.trans (decM_of hP hQ hO hY))
  clear hP hQ hO hY hN hX
  have HK := Lib.hid hK
  have D5 := Lib.hid d5
  clear e5 d5 r5 x5 p5 hK
  go_enter Tryd.func15, Tryd.ntmps15
  go_wp2_with fail
  rw [E5.out]
  refine HX.out.mono ?_
  rintro e w6 ⟨rfl, r6, t6, hW6⟩
  rw [show noneM = mailCells noM (.slice none 0 0) from rfl, m_put1 _ _ hl9] at t6
  have HE := Lib.hid (readEnts_any (by omega) hp9.2.1 r6)
  rw [HQQ.out] at HE
  have T6 := Lib.hid t6
  clear r6 t6
  go_wp2_with fail
  refine HE.out.mono ?_
  rintro e w7 ⟨v7, rfl, o7, r7, hW7⟩
  obtain ⟨a7, cap7, rfl, -⟩ := ents_owned (B' := 0) o7
  have hs6 := hW6.below.size
  have hs7 := hW7.below.size
  have t7 := (hW7.other (w.heap.size + 1 + 1) (by omega) (by omega) (by omega)).trans T6.out
  have f7 := thawed t7 9
  have x7 : w7.cell? ⟨w.heap.size + 1 + 1, 9, none⟩ = some (.slice none 0 0) := by simp [World.cell?, t7, mailCells]
  have O7 := Lib.hid o7
  have R7 := Lib.hid r7
  have T7 := Lib.hid t7
  clear o7 r7 t7
  obtain ⟨w8, e8⟩ : ∃ w8, w7.setCell ⟨w.heap.size + 1 + 1, 9, none⟩ (.slice a7 q.1.length cap7) = w8 := ⟨_, rfl⟩
  obtain ⟨t8, k8, hW8⟩ := rd_setTo (R := w.heap.size + 1 + 1) (o := 9) (v := .slice a7 q.1.length cap7) T7.out (Wrote.refl _ _ w7)
  rw [e8] at t8 k8 hW8
  rw [m_set9] at t8
  have E8 := Lib.hid e8
  have r8 := (k8 (w.heap.size + 1) (by omega)).trans R7.out
  have HO := Lib.hid (rorder_any (Nat.le_trans hs (by decide)) r8)
  rw [HOQ.out] at HO
  have O8 := Lib.hid (owns_wrote O7.out hW8 (by omega))
  have hs8 := hW8.below.size
  have T8 := Lib.hid t8
  clear e8 t8 r8
  go_wp2_with fail
  rw [E8.out]
  refine HO.out.mono ?_
  rintro e w9 ⟨rfl, r9, hW9⟩
  have hs9 := hW9.below.size
  have O9 := Lib.hid (owns_wrote O8.out hW9 (by omega))
  have t9 := (hW9.other (w.heap.size + 1 + 1) (by omega) (by omega) (by omega)).trans T8.out
  have R9 := Lib.hid r9
  clear r9 x7 f7
  go_wp2_with fail
  rw [run_storeCells_at Tryd.prog (w.heap.size + 1 + 1) 10 28 (ordCells (rdOrd o.1)).toList 0 _ w9 t9 (by simp [mailCells, ordCells]) (by intro v hv; simp [ordCells] at hv; rcases hv with rfl | rfl | rfl | rfl | rfl <;> rfl)]
  rw [m_row]
  simp only [Result.andThen]
  obtain ⟨w10, e10⟩ : ∃ w10, w9.setRow (w.heap.size + 1 + 1) (mailCells (mkM p.1 (rdOrd o.1) []) (.slice a7 q.1.length cap7)) = w10 := ⟨_, rfl⟩
  have t10 := setRow_heap w9 (w.heap.size + 1 + 1) _ (mailCells (mkM p.1 (rdOrd o.1) []) (.slice a7 q.1.length cap7)) _ _ t9
  have r10 := (setRow_other w9 (w.heap.size + 1 + 1) (w.heap.size + 1) (mailCells (mkM p.1 (rdOrd o.1) []) (.slice a7 q.1.length cap7)) (by omega)).trans R9.out
  have d10 := setRow_other w9 (w.heap.size + 1 + 1) w.heap.size (mailCells (mkM p.1 (rdOrd o.1) []) (.slice a7 q.1.length cap7)) (by omega)
  have hW10 := (Wrote.refl (w.heap.size + 1 + 1) (w.heap.size + 1 + 1) w9).row (.inr rfl) (mailCells (mkM p.1 (rdOrd o.1) []) (.slice a7 q.1.length cap7))
  rw [e10] at t10 r10 d10 hW10 ⊢
  have hs10 := hW10.below.size
  have O10 := Lib.hid (owns_wrote O9.out hW10 (by omega))
  obtain ⟨w11, e11, b11, s11, c11⟩ := ptrs_built w10 (w.heap.size + 1 + 1) [15, 16, 17] 60
  have hW11 : Wrote (w.heap.size + 1 + 1) (w.heap.size + 1 + 1) w10 w11 := by rw [← e11]; exact Wrote.of_alloc _ _
  have HY := Lib.hid (rints_any (R := w.heap.size + 1) (T := w.heap.size + 1 + 1) (g := w10.heap.size) (off := 0) (cap := 3) (os := [15, 16, 17]) (Nat.le_trans hs (by decide)) (by rw [b11.block _ (by omega)]; exact r10) (by rw [b11.block _ (by omega)]; exact t10) (by omega) (by omega) (by omega) (by omega)
    (by intro o ho; simp at ho; rcases ho with rfl | rfl | rfl <;> exact ⟨0, rfl⟩) (by decide) c11)
  have E11 := Lib.hid (show w10.alloc (.cells #[.pointer (some ⟨w.heap.size + 1 + 1, 15, none⟩), .pointer (some ⟨w.heap.size + 1 + 1, 16, none⟩), .pointer (some ⟨w.heap.size + 1 + 1, 17, none⟩)] 60) = w11 from e11)
  have hq3 : ([15, 16, 17] : List Nat).length = 3 := rfl
  rw [hq3] at HY
  rw [HYQ.out] at HY
  have D10 := Lib.hid d10
  clear e11 c11 r10 t10 e10 d10 t9
  go_wp2_with fail
  rw [E11.out]
  refine HY.out.mono ?_
  rintro e w12 ⟨rfl, r12, t12, hW12⟩
  rw [m_put2 _ _ _ _ hl3] at t12
  have hs12' := hW12.below.size
  have D12 := Lib.hid ((hW12.other w.heap.size (by omega) (by omega) (by omega)).trans ((b11.block _ (by omega)).trans (D10.out.trans ((hW9.other w.heap.size (by omega) (by omega) (by omega)).trans ((k8 w.heap.size (by omega)).trans ((hW7.other w.heap.size (by omega) (by omega) (by omega)).trans ((hW6.other w.heap.size (by omega) (by omega) (by omega)).trans D5.out)))))))
  have B12 := Lib.hid (show Below w.heap.size w w12 from b5.trans ((hW6.toBelow (by omega) (by omega) (by omega)).trans ((hW7.toBelow (by omega) (by omega) (by omega)).trans ((hW8.toBelow (by omega) (by omega) (by omega)).trans ((hW9.toBelow (by omega) (by omega) (by omega)).trans ((hW10.toBelow (by omega) (by omega) (by omega)).trans ((b11.mono (by omega)).trans (hW12.toBelow (by omega) (by omega) (by omega)))))))))
  have O12 := Lib.hid (owns_le (B' := w.heap.size) (owns_wrote2 (owns_wrote O10.out hW11 (by omega)) hW12 (by omega) (by omega)) (by omega))
  have R12 := Lib.hid r12
  have T12 := Lib.hid t12
  have hrg : w12.rangeAt (w.heap.size + 1 + 1) 0 (mailCells (mkM p.1 (rdOrd o.1) y.1) (.slice a7 q.1.length cap7)).toList := msg_range t12
  have HKK := Lib.hid (HK.out.below B12.out HK.out.pos)
  have hsA := hW12.below.size
  clear r12 t12 hW6 hW7 hW8 hW9 hW10 hW11 hW12 b11 k8 O7 O8 O9 O10 T6 T7 T8 R7 R9 D10 D5 E5 E8 E11 HX HE HO HY HOQ HQQ HYQ HK hpe
  generalize mkM p.1 (rdOrd o.1) y.1 = m at *
  have HEN := ents_owned (B' := w.heap.size) O12.out
  by_cases hm : mayM m q.1 n = true
  · have HM := Lib.hid (encodeM_yes HKK.out HEN HN.out HEO.out hm)
    clear HEN
    go_wp2_with (refine wpList_load_mid rfl _ _ rfl _ _ rfl _ _ hrg Tryd.underlying28 rfl (by kernel_rfl) ?_)
    refine HM.out.mono ?_
    rintro e w13 ⟨rfl, b13⟩
    have hs12 : w.heap.size + 4 ≤ w12.heap.size := by omega
    have r13 := (b13.block (w.heap.size + 1) (by omega)).trans R12.out
    have t13 := (b13.block (w.heap.size + 1 + 1) (by omega)).trans T12.out
    have d13 := (b13.block w.heap.size (by omega)).trans D12.out
    clear hrg
    obtain ⟨y0, y1, y2⟩ := rd_cells r13
    have T13 := Lib.hid t13
    have D13 := Lib.hid d13
    have B13 := B12.out.trans (b13.mono B12.out.size)
    clear r13 t13 d13
    cases hb : y.2.2 with
    | true =>
      rw [hb] at y2 HD
      go_wp2_with (refine wpList_store_row rfl _ _ _ rfl w.heap.size noneM rfl rfl _ _ D13.out (by kernel_rfl) rfl (by simp [noneM, mailCells, noM, noOrd, Value.oneCell']) ?_)
      (try simp only [Exit.inBlock, Exit.then])
      have hk : (w13.setRow w.heap.size noneM).rangeAt w.heap.size 0 noneM.toList := World.rangeAt_of_block (setRow_heap w13 w.heap.size _ noneM _ _ D13.out) 0 18
      have hr := run_loadVar_mid (P := Tryd.prog) _ w.heap.size 0 28 _ _ hk Tryd.underlying28 rfl (by kernel_rfl)
      refine bodyPost_ret (res_cell2 Tryd.results15 rfl hr rfl) rfl ⟨below_setRow B13 (Nat.le_refl _) _, fun _ => rfl, fun x hx => ?_⟩
      rw [HD.out] at hx
      simp at hx
    | false =>
      rw [hb] at y2 HD
      by_cases hq : encM m q.1 = s.data.toList
      · have d1 : (!((str (encM m q.1)).toList == s.toList)) = false := by rw [hq]; simp [str]
        have hx3 : w13.rangeAt (w.heap.size + 1 + 1) 0 (mailCells m (.slice a7 q.1.length cap7)).toList := msg_range T13.out
        have hq' := Lib.hid hq
        clear hq
        go_wp2_with (first | (refine wpList_load_mid rfl _ _ rfl _ _ rfl _ _ hx3 Tryd.underlying28 rfl (by kernel_rfl) ?_) | refine wpList_store_row rfl _ _ _ rfl w.heap.size (mailCells m (.slice a7 q.1.length cap7)) rfl rfl _ _ D13.out (by kernel_rfl) rfl (by simp [mailCells, Value.oneCell']) ?_)
        (try simp only [Exit.inBlock, Exit.then])
        have hk : (w13.setRow w.heap.size (mailCells m (.slice a7 q.1.length cap7))).rangeAt w.heap.size 0 (mailCells m (.slice a7 q.1.length cap7)).toList := World.rangeAt_of_block (setRow_heap w13 w.heap.size _ (mailCells m (.slice a7 q.1.length cap7)) _ _ D13.out) 0 18
        have hr := run_loadVar_mid (P := Tryd.prog) _ w.heap.size 0 28 _ _ hk Tryd.underlying28 rfl (by kernel_rfl)
        refine bodyPost_ret (res_cell2 Tryd.results15 rfl hr rfl) rfl ⟨below_setRow B13 (Nat.le_refl _) _, fun hx => ?_, fun x hx => ?_⟩
        · rw [HD.out, if_pos ⟨trivial, hm, hq'.out⟩] at hx
          cases hx
        · rw [HD.out, if_pos ⟨trivial, hm, hq'.out⟩] at hx
          cases hx
          exact ⟨_, _, rfl, row_row (owns_below O12.out b13) D13.out (by decide)⟩
      · have d1 : (!((str (encM m q.1)).toList == s.toList)) = true := by
          have h : (str (encM m q.1)).toList ≠ s.toList := fun h => hq (by simpa [str, ByteArray.toList_eq] using h)
          simpa using h
        have hq' := Lib.hid hq
        clear hq
        go_wp2_with (refine wpList_store_row rfl _ _ _ rfl w.heap.size noneM rfl rfl _ _ D13.out (by kernel_rfl) rfl (by simp [noneM, mailCells, noM, noOrd, Value.oneCell']) ?_)
        (try simp only [Exit.inBlock, Exit.then])
        have hk : (w13.setRow w.heap.size noneM).rangeAt w.heap.size 0 noneM.toList := World.rangeAt_of_block (setRow_heap w13 w.heap.size _ noneM _ _ D13.out) 0 18
        have hr := run_loadVar_mid (P := Tryd.prog) _ w.heap.size 0 28 _ _ hk Tryd.underlying28 rfl (by kernel_rfl)
        refine bodyPost_ret (res_cell2 Tryd.results15 rfl hr rfl) rfl ⟨below_setRow B13 (Nat.le_refl _) _, fun _ => rfl, fun x hx => ?_⟩
        rw [HD.out] at hx
        exact absurd hx (by simp [hq'.out])
  · have hm' : mayM m q.1 n = false := by simpa using hm
    have HM := Lib.hid (encodeM_no HKK.out HEN (by omega) hm')
    clear HEN
    go_wp2_with (refine wpList_load_mid rfl _ _ rfl _ _ rfl _ _ hrg Tryd.underlying28 rfl (by kernel_rfl) ?_)
    refine HM.out.mono ?_
    rintro e w13 ⟨rfl, b13⟩
    have hs12 : w.heap.size + 4 ≤ w12.heap.size := by omega
    have r13 := (b13.block (w.heap.size + 1) (by omega)).trans R12.out
    have t13 := (b13.block (w.heap.size + 1 + 1) (by omega)).trans T12.out
    have d13 := (b13.block w.heap.size (by omega)).trans D12.out
    clear hrg
    obtain ⟨y0, y1, y2⟩ := rd_cells r13
    have T13 := Lib.hid t13
    have D13 := Lib.hid d13
    have B13 := B12.out.trans (b13.mono B12.out.size)
    clear r13 t13 d13
    cases hb : y.2.2 with
    | true =>
      rw [hb] at y2 HD
      go_wp2_with (refine wpList_store_row rfl _ _ _ rfl w.heap.size noneM rfl rfl _ _ D13.out (by kernel_rfl) rfl (by simp [noneM, mailCells, noM, noOrd, Value.oneCell']) ?_)
      (try simp only [Exit.inBlock, Exit.then])
      have hk : (w13.setRow w.heap.size noneM).rangeAt w.heap.size 0 noneM.toList := World.rangeAt_of_block (setRow_heap w13 w.heap.size _ noneM _ _ D13.out) 0 18
      have hr := run_loadVar_mid (P := Tryd.prog) _ w.heap.size 0 28 _ _ hk Tryd.underlying28 rfl (by kernel_rfl)
      refine bodyPost_ret (res_cell2 Tryd.results15 rfl hr rfl) rfl ⟨below_setRow B13 (Nat.le_refl _) _, fun _ => rfl, fun x hx => ?_⟩
      rw [HD.out] at hx
      simp at hx
    | false =>
      rw [hb] at y2 HD
      go_wp2_with (refine wpList_store_row rfl _ _ _ rfl w.heap.size noneM rfl rfl _ _ D13.out (by kernel_rfl) rfl (by simp [noneM, mailCells, noM, noOrd, Value.oneCell']) ?_)
      (try simp only [Exit.inBlock, Exit.then])
      have hk : (w13.setRow w.heap.size noneM).rangeAt w.heap.size 0 noneM.toList := World.rangeAt_of_block (setRow_heap w13 w.heap.size _ noneM _ _ D13.out) 0 18
      have hr := run_loadVar_mid (P := Tryd.prog) _ w.heap.size 0 28 _ _ hk Tryd.underlying28 rfl (by kernel_rfl)
      refine bodyPost_ret (res_cell2 Tryd.results15 rfl hr rfl) rfl ⟨below_setRow B13 (Nat.le_refl _) _, fun _ => rfl, fun x hx => ?_⟩
      rw [HD.out] at hx
      simp [hm'] at hx
end Go.Proofs.YtnekpehgaojkaaaDoor
