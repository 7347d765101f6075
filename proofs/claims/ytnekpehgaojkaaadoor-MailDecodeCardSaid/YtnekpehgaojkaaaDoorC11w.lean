/- The reference of layer 10: Ints, Entries, Encode. -/
import Derived.Test.YtnekpehgaojkaaaDoorC11u
import Derived.Deep.DeepCutAuto
import Derived.Deep.RegionHeld3
namespace Go.Proofs.YtnekpehgaojkaaaDoor
open Go.RowKit

theorem str_put (ns : List Int) (k : Nat) (hk : k < ns.length) : str (putL (ns.take k)) ++ str (Marks.put ns[k]) = str (putL (ns.take (k + 1))) := by
  rw [putL_take ns k hk, str_append]
set_option maxRecDepth 100000 in
set_option maxHeartbeats 2000000 in
theorem refInts_any {g off cap : Nat} {w : World} (ns : List Int) (hl : ns.length ≤ 100) (hi64 : ∀ n ∈ ns, -9223372036854775808 ≤ n ∧ n ≤ 9223372036854775807)
    (hg : g < w.heap.size) (hc : ∀ j (h : j < ns.length), w.cell? ⟨g, off + j, none⟩ = some (.int .i64 ns[j])) :
    Calls Tryd.prog 25 #[.slice (some ⟨g, off, none⟩) ns.length cap] w fun e w' => e = .returned (.string (str (putL ns))) ∧ Below w.heap.size w w' := by
  have HC := Lib.hid hc
  have HI := Lib.hid hi64
  clear hc hi64
  go_enter Tryd.func25, Tryd.ntmps25
  go_wp2_with fail
  go_loopw [3, 4] (fun b p wr => ∃ k : Nat, k ≤ ns.length ∧ p = .int .i64 k ∧ b = .string (str (putL (ns.take k))) ∧ Below w.heap.size w wr) (fun _ p _ => ns.length - (intOf p).toNat)
  case atStart => exact ⟨0, by omega, rfl, rfl, Below.refl _ _⟩
  case round =>
    obtain ⟨k, hk, rfl, rfl, hB⟩ := hrel
    have hBs := hB.size
    by_cases hlt : k < ns.length
    · have hx : wr.cell? ⟨g, off + k, none⟩ = some (.int .i64 ns[k]) := (hB.cell (p := ⟨g, off + k, none⟩) hg).trans (HC.out k hlt)
      have hb64 := HI.out _ (List.getElem_mem hlt)
      have HP := Lib.hid (refPut_any ns[k] hb64.1 hb64.2)
      have HT := Lib.hid (str_put ns k hlt)
      have hs1 : (str (putL (ns.take k))).size ≤ 1000 := by
        have := putL_len (ns.take k)
        rw [List.length_take] at this
        rw [str_size]; omega
      have hs2 : (str (Marks.put ns[k])).size ≤ 10 := by rw [str_size]; exact (Marks.put_len _).2
      clear hb64
      generalize str (Marks.put ns[k]) = sy at *
      generalize str (putL (ns.take k)) = sx at *
      generalize ns[k] = n at *
      go_wp2_with fail
      refine (HP.out _).mono ?_
      rintro e w1 ⟨rfl, b1⟩
      go_wp2
      go_roundw
      case rel => exact ⟨k + 1, by omega, by go_num, by rw [← HT.out], hB.trans (b1.mono hBs)⟩
      case measure => simp [intOf]; omega
    · obtain rfl : k = ns.length := by omega
      rw [List.take_length]
      go_wp2
      go_ret
      exact ⟨rfl, hB⟩

theorem str_ents (a : List UInt8) (es : List Ent) (k : Nat) (hk : k < es.length) : str (a ++ entsL (es.take k)) ++ str (putL es[k].nums) = str (a ++ entsL (es.take (k + 1))) := by
  rw [entsL_take es k hk, str_append, List.append_assoc]
/-- Six cells, of an entry and of its order in a box. -/
def entBox (w : World) (g o : Nat) (q : Nat) (x : Ent) : Prop :=
  w.cell? ⟨g, o, none⟩ = some (.int .i64 x.epoch) ∧ w.cell? ⟨q, 0, none⟩ = some (.int .i64 x.ord.id) ∧ w.cell? ⟨q, 1, none⟩ = some (.int .i64 x.ord.stream) ∧ w.cell? ⟨q, 2, none⟩ = some (.int .i64 x.ord.expect) ∧ w.cell? ⟨q, 3, none⟩ = some (.int .i64 x.ord.kind) ∧ w.cell? ⟨q, 4, none⟩ = some (.int .i64 x.ord.arg)

theorem entBox.below {w w' : World} {g o q : Nat} {x : Ent} (h : entBox w g o q x) (hg : g < w.heap.size) (hq : q < w.heap.size) (hb : Below w.heap.size w w') : entBox w' g o q x := by
  obtain ⟨h0, h1, h2, h3, h4, h5⟩ := h
  exact ⟨(hb.cell (p := ⟨g, o, none⟩) hg).trans h0, (hb.cell (p := ⟨q, 0, none⟩) hq).trans h1, (hb.cell (p := ⟨q, 1, none⟩) hq).trans h2, (hb.cell (p := ⟨q, 2, none⟩) hq).trans h3, (hb.cell (p := ⟨q, 3, none⟩) hq).trans h4, (hb.cell (p := ⟨q, 4, none⟩) hq).trans h5⟩
set_option maxRecDepth 100000 in
set_option maxHeartbeats 4000000 in
theorem refEntries_any {B : Nat} {w : World} {ve : Value} {es : List Ent} (he : EntsAt B w ve es) (hok : EntsOk es) (hl : es.length ≤ 1000) :
    Calls Tryd.prog 26 #[ve] w fun e w' => e = .returned (.string (str (putL [(es.length : Int)] ++ entsL es))) ∧ Below w.heap.size w w' := by
  obtain ⟨w1, e1, b1, s1, n1, c1⟩ := built w [(es.length : Int)]
  have HX := Lib.hid (refInts_any (cap := 1) [(es.length : Int)] (by simp) (fun n hn => by simp at hn; subst hn; omega) (g := w.heap.size) (by omega) c1)
  have E1 := Lib.hid (show w.alloc (.cells #[.int .i64 (es.length : Int)] 3) = w1 from e1)
  have HE := Lib.hid he
  obtain ⟨ae, ce, rfl, _⟩ := he
  have HOK := Lib.hid hok
  have hpl : (putL [(es.length : Int)]).length ≤ 10 := putL_len [(es.length : Int)]
  clear e1 n1 c1 hok
  go_enter Tryd.func26, Tryd.ntmps26
  go_wp2_with fail
  rw [E1.out]
  refine HX.out.mono ?_
  rintro e w2 ⟨rfl, b2⟩
  have B2 := b1.trans (b2.mono b1.size)
  go_wp2_with fail
  go_loopw [3, 4] (fun b p wr => ∃ k : Nat, k ≤ es.length ∧ p = .int .i64 k ∧ b = .string (str (putL [(es.length : Int)] ++ entsL (es.take k))) ∧ Below w.heap.size w wr) (fun _ p _ => es.length - (intOf p).toNat)
  case atStart => exact ⟨0, by omega, rfl, by simp [entsL], B2⟩
  case round =>
    obtain ⟨k, hk, rfl, rfl, hB⟩ := hrel
    have hBs := hB.size
    by_cases hlt : k < es.length
    · obtain ⟨a1, c1, hva, hca⟩ := HE.out.below hB
      cases hva
      obtain ⟨bb, off, rfl, hbl, _, hcell⟩ := hca (fun h => by rw [h] at hlt; simp at hlt)
      obtain ⟨x0, x1, x2, x3, x4, x5⟩ := hcell k hlt
      have HOx := Lib.hid (HOK.out _ (List.getElem_mem hlt))
      have HT := Lib.hid (str_ents (putL [(es.length : Int)]) es k hlt)
      have hs1 : (str (putL [(es.length : Int)] ++ entsL (es.take k))).size ≤ 70000 := by
        have := entsL_len (es.take k)
        rw [List.length_take] at this
        rw [str_size, List.length_append]; omega
      have hs2 : (str (putL es[k].nums)).size ≤ 60 := by
        rw [str_size]
        exact putL_len es[k].nums
      clear hcell hca
      generalize es[k] = x at *
      generalize str (putL [(es.length : Int)] ++ entsL (es.take k)) = sx at *
      obtain ⟨w3, e3, b3, s3, h3⟩ := boxed wr (ordCells x.ord) 24
      have E3 := Lib.hid (show wr.alloc (.cells #[.int .i64 x.ord.id, .int .i64 x.ord.stream, .int .i64 x.ord.expect, .int .i64 x.ord.kind, .int .i64 x.ord.arg] 24) = w3 from e3)
      obtain ⟨y0, y1, y2, y3, y4⟩ := ord_cells h3
      have z0 : w3.cell? ⟨bb, off + k * 6, none⟩ = some (.int .i64 x.epoch) := (b3.cell (p := ⟨bb, off + k * 6, none⟩) hbl).trans x0
      obtain ⟨w4a, e4a, b4a, s4a, n4a, c4a⟩ := built w3 x.nums
      obtain ⟨w4, e4, b4, s4, c4⟩ : ∃ w4, w4a.drew = w4 ∧ Below w3.heap.size w3 w4 ∧ w4.heap.size = w3.heap.size + 1 ∧ ∀ j (h : j < x.nums.length), w4.cell? ⟨w3.heap.size, 0 + j, none⟩ = some (.int .i64 x.nums[j]) :=
        ⟨_, rfl, b4a.drew, s4a, c4a⟩
      have E4 := Lib.hid (show (w3.alloc (.cells #[.int .i64 x.epoch, .int .i64 x.ord.id, .int .i64 x.ord.stream, .int .i64 x.ord.expect, .int .i64 x.ord.kind, .int .i64 x.ord.arg] 3)).drew = w4 by rw [← e4, ← e4a]; rfl)
      have HX4 := Lib.hid (refInts_any (cap := 6) x.nums (by simp [Ent.nums, Ord.nums]) HOx.out (g := w3.heap.size) (by omega) c4)
      have k4 : entBox w4 bb (off + k * 6) wr.heap.size x := by
        have hq : wr.heap.size < w3.heap.size := by omega
        have hb3 : bb < w3.heap.size := by omega
        exact ⟨(b4.cell (p := ⟨bb, off + k * 6, none⟩) hb3).trans z0, (b4.cell (p := ⟨wr.heap.size, 0, none⟩) hq).trans y0, (b4.cell (p := ⟨wr.heap.size, 1, none⟩) hq).trans y1, (b4.cell (p := ⟨wr.heap.size, 2, none⟩) hq).trans y2, (b4.cell (p := ⟨wr.heap.size, 3, none⟩) hq).trans y3, (b4.cell (p := ⟨wr.heap.size, 4, none⟩) hq).trans y4⟩
      have K4 := Lib.hid k4
      obtain ⟨k0, k1, k2, k3, k4', k5⟩ := k4
      have hbb4 : bb < w4.heap.size := by omega
      have hwr4 : wr.heap.size < w4.heap.size := by omega
      have s3' : w3.heap.size = wr.heap.size + 1 := s3
      rw [s3] at HX4
      clear e3 h3 e4 e4a b4a s4a n4a c4a c4
      generalize str (putL x.nums) = sy at *
      have ha1 : ¬ 9223372036854775807 < sx.size + sy.size := by omega
      go_wp2_with fail
      rw [E3.out]
      go_region_held3 (fun w' => w'.cell? ⟨bb, off + k * 6, none⟩ = some (.int .i64 x.epoch) ∧ w'.cell? ⟨wr.heap.size, 0, none⟩ = some (.int .i64 x.ord.id) ∧ w'.cell? ⟨wr.heap.size, 1, none⟩ = some (.int .i64 x.ord.stream) ∧ w'.cell? ⟨wr.heap.size, 2, none⟩ = some (.int .i64 x.ord.expect) ∧ w'.cell? ⟨wr.heap.size, 3, none⟩ = some (.int .i64 x.ord.kind) ∧ w'.cell? ⟨wr.heap.size, 4, none⟩ = some (.int .i64 x.ord.arg))
        (first | exact ⟨z0, y0, y1, y2, y3, y4⟩ | (rw [E4.out]; exact ⟨k0, k1, k2, k3, k4', k5⟩) | exact q5 | exact ⟨trivial, trivial⟩ | go_keep)
        ((go_at_call 25; rw [E4.out]; refine HX4.out.mono ?_; rintro e w5 ⟨rfl, b5⟩; have q5 := K4.out.below hbb4 hwr4 b5))
      have B5 := hB.trans ((b3.trans ((b4.mono b3.size).trans (b5.mono (by have := b3.size; have := b4.size; omega)))).mono hBs)
      clear k0 k1 k2 k3 k4' k5 y0 y1 y2 y3 y4 z0 x0 x1 x2 x3 x4 x5
      go_wp2
      go_roundw
      case rel => exact ⟨k + 1, by omega, by go_num, by rw [← HT.out], B5⟩
      case measure => simp [intOf]; omega
    · obtain rfl : k = es.length := by omega
      rw [List.take_length]
      go_wp2
      go_ret
      exact ⟨rfl, hB⟩
end Go.Proofs.YtnekpehgaojkaaaDoor
