/- The contracts of packs: List, of entries and of spots. -/
import Derived.Test.YtnekpehgaojkaaaDoorC10b
namespace Go.Proofs.YtnekpehgaojkaaaDoor
open Go.RowKit

/-- Block k is not written by what keeps below B. -/
def Safe (B : Nat) (w : World) (k : Nat) : Prop := k < B ∨ NoBytes w k
theorem Kept.safe {B : Nat} {w w' : World} (h : Kept B w w') {k : Nat} (hk : k < w.heap.size) (hn : Safe B w k) : Safe B w' k := hn.imp_right (h.no hk)
theorem Kept.blockS {B : Nat} {w w' : World} (h : Kept B w w') {k : Nat} (hk : k < w.heap.size) (hn : Safe B w k) : w'.heap[k]? = w.heap[k]? := by
  rcases hn with hn | hn
  · exact h.below.block _ hn
  · exact h.other _ hk hn
theorem Kept.cellS {B : Nat} {w w' : World} (h : Kept B w w') {p : Addr} (hk : p.block < w.heap.size) (hn : Safe B w p.block) : w'.cell? p = w.cell? p := World.cell?_of_block (w := w) (h.blockS hk hn)
/-- The six cells of an entry at a place. -/
def entAt (w : World) (b off : Nat) (x : Ent) : Prop :=
  w.cell? ⟨b, off, none⟩ = some (.int .i64 x.epoch) ∧ w.cell? ⟨b, off + 1, none⟩ = some (.int .i64 x.ord.id) ∧ w.cell? ⟨b, off + 2, none⟩ = some (.int .i64 x.ord.stream) ∧ w.cell? ⟨b, off + 3, none⟩ = some (.int .i64 x.ord.expect) ∧ w.cell? ⟨b, off + 4, none⟩ = some (.int .i64 x.ord.kind) ∧ w.cell? ⟨b, off + 5, none⟩ = some (.int .i64 x.ord.arg)
theorem entAt_of {w w' : World} {b off : Nat} {x : Ent} (h : entAt w b off x) (hb : w'.heap[b]? = w.heap[b]?) : entAt w' b off x := by
  have hc : ∀ o, w'.cell? ⟨b, o, none⟩ = w.cell? ⟨b, o, none⟩ := fun o => World.cell?_of_block (a := ⟨b, o, none⟩) hb
  obtain ⟨h0, h1, h2, h3, h4, h5⟩ := h
  exact ⟨(hc _).trans h0, (hc _).trans h1, (hc _).trans h2, (hc _).trans h3, (hc _).trans h4, (hc _).trans h5⟩
/-- A slice value that holds these entries. -/
def EntsAt (B : Nat) (w : World) (v : Value) (es : List Ent) : Prop :=
  ∃ (a : Option Addr) (cap : Nat), v = .slice a es.length cap ∧ (es ≠ [] → ∃ b off, a = some ⟨b, off, none⟩ ∧ b < w.heap.size ∧ Safe B w b ∧ ∀ j (h : j < es.length), entAt w b (off + j * 6) es[j])
theorem EntsAt.kept {B : Nat} {w w' : World} {v : Value} {es : List Ent} (h : EntsAt B w v es) (hk : Kept B w w') : EntsAt B w' v es := by
  obtain ⟨a, cap, hv, hc⟩ := h
  refine ⟨a, cap, hv, fun hl => ?_⟩
  obtain ⟨b, off, ha, hlt, hs, hcell⟩ := hc hl
  exact ⟨b, off, ha, Nat.lt_of_lt_of_le hlt hk.size, hk.safe hlt hs, fun j hj => entAt_of (hcell j hj) (hk.blockS hlt hs)⟩
def EntsOk (es : List Ent) : Prop := ∀ x ∈ es, EntOk x
/-- The marks of a list of entries. -/
def entsL (es : List Ent) : List UInt8 := es.flatMap fun x => putL x.nums
theorem entsL_take (es : List Ent) (k : Nat) (hk : k < es.length) : entsL (es.take (k + 1)) = entsL (es.take k) ++ putL es[k].nums := by
  have e : ∀ (a : List Ent) (b : Ent), entsL (a ++ [b]) = entsL a ++ putL b.nums := fun a b => by simp [entsL]
  rw [List.take_succ_eq_append_getElem hk, e]
theorem entsL_len : ∀ (es : List Ent), (entsL es).length ≤ 60 * es.length
  | [] => by simp [entsL]
  | x :: es => by
    have h1 := entsL_len es
    have h2 := putL_len x.nums
    have h3 : x.nums.length = 6 := rfl
    have e : entsL (x :: es) = putL x.nums ++ entsL es := rfl
    rw [e, List.length_append, List.length_cons]; omega
set_option maxRecDepth 100000 in
set_option maxHeartbeats 4000000 in
theorem entList_any {B : Nat} {w : World} {v ve : Value} {l : List UInt8} {es : List Ent} (hv : BufAt B w v l) (hB : B ≤ w.heap.size) (he : EntsAt B w ve es) (hok : EntsOk es) (hl : l.length + 10 + 60 * es.length ≤ 1000000) :
    Calls Tryd.prog 21 #[v, ve, .func (.func 22) #[] #[]] w (BufOut B w (l ++ putL [(es.length : Int)] ++ entsL es)) := by
  obtain ⟨w1, e1, b1, s1, n1, c1⟩ := built w [(es.length : Int)]
  have hv1 := buf_below hv b1
  have hK1 := Kept.of_below b1 hB
  have HX := Lib.hid (ints_any hv1 (by omega) [(es.length : Int)] (by show l.length + 10 * 1 ≤ _; omega) (fun n hn => by simp at hn; subst hn; omega) (g := w.heap.size) (by omega) n1 c1 (cap := 1))
  have E1 := Lib.hid (show w.alloc (.cells #[.int .i64 (es.length : Int)] 3) = w1 from e1)
  have HE := Lib.hid (he.kept hK1)
  obtain ⟨ae, ce, rfl, _⟩ := he
  have HOK := Lib.hid hok
  have hpl := putL_len [(es.length : Int)]
  rw [List.length_singleton] at hpl
  clear e1 n1 c1 hv1 hv hok
  go_enter Tryd.func21, Tryd.ntmps21
  go_wp2_with fail
  rw [E1.out]
  refine HX.out.mono ?_
  rintro e w2 ⟨v2, rfl, hb2, hk2⟩
  have HB2 := Lib.hid hb2
  have hK2 := hK1.trans hk2
  have HE2 := Lib.hid (HE.out.kept hk2)
  clear hb2
  go_wp2_with fail
  go_loopw [0, 16] (fun b p wr => ∃ k : Nat, k ≤ es.length ∧ p = .int .i64 k ∧ BufAt B wr b (l ++ putL [(es.length : Int)] ++ entsL (es.take k)) ∧ Kept B w2 wr) (fun _ p _ => es.length - (intOf p).toNat)
  case atStart => exact ⟨0, by omega, rfl, by simpa [entsL] using HB2.out, Kept.refl _ _⟩
  case round =>
    obtain ⟨k, hk, rfl, hb, hK⟩ := hrel
    have hKs := hK.size
    have hK2s := hK2.size
    by_cases hlt : k < es.length
    · obtain ⟨a1, c1, hva, hca⟩ := HE2.out.kept hK
      cases hva
      obtain ⟨b, off, rfl, hbl, _, hcell⟩ := hca (fun h => by rw [h] at hlt; simp at hlt)
      obtain ⟨x0, x1, x2, x3, x4, x5⟩ := hcell k hlt
      have HOx := Lib.hid (HOK.out _ (List.getElem_mem hlt))
      have HT := Lib.hid (entsL_take es k hlt)
      generalize es[k] = x at *
      generalize hm0 : l ++ putL [(es.length : Int)] ++ entsL (es.take k) = m0 at *
      have HM0 := Lib.hid hm0
      have hml : m0.length + 60 ≤ 1000000 := by
        have := entsL_len (es.take k)
        rw [List.length_take] at this
        rw [← hm0, List.length_append, List.length_append]; omega
      obtain ⟨w3, e3, b3, s3, h3⟩ := boxed wr (entCells x) 30
      have E3 := Lib.hid (show wr.alloc (.cells #[.int .i64 x.epoch, .int .i64 x.ord.id, .int .i64 x.ord.stream, .int .i64 x.ord.expect, .int .i64 x.ord.kind, .int .i64 x.ord.arg] 30) = w3 from e3)
      have HE3 := Lib.hid (entry_any (buf_below hb b3) (by omega) x HOx.out hml)
      have hK3 := hK.trans (Kept.of_below b3 (by omega))
      clear hcell hca hb hm0 e3 h3
      go_wp2_with fail
      rw [E3.out]
      refine HE3.out.mono ?_
      rintro e w4 ⟨v4, rfl, hb4, hk4⟩
      have HB4 := Lib.hid (show BufAt B w4 v4 (l ++ putL [(es.length : Int)] ++ entsL (es.take (k + 1))) by rw [HT.out, ← List.append_assoc, HM0.out]; exact hb4)
      have hK4 := hK3.trans hk4
      clear hb4
      go_wp2
      go_roundw
      case rel => exact ⟨k + 1, by omega, by go_num, HB4.out, hK4⟩
      case measure => simp [intOf]; omega
    · obtain rfl : k = es.length := by omega
      rw [List.take_length] at hb
      have HB4 := Lib.hid hb
      clear hb
      go_wp2
      go_ret
      exact ⟨_, rfl, HB4.out, hK2.trans hK⟩
end Go.Proofs.YtnekpehgaojkaaaDoor
