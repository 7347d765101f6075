/- The contracts of records: the marks of spots. -/
import Derived.Test.YtalilifegclelaaC10c
namespace Go.Proofs.Ytalilifegclelaa
open Go.RowKit

structure Spt where
  stream : Int
  index : Int
def Spt.nums (x : Spt) : List Int := [x.stream, x.index]
def SptOk (x : Spt) : Prop := ∀ n ∈ x.nums, -9223372036854775808 ≤ n ∧ n ≤ 9223372036854775807
def sptCells (x : Spt) : Array Value := #[.int .i64 x.stream, .int .i64 x.index]
def sptAt (w : World) (b off : Nat) (x : Spt) : Prop := w.cell? ⟨b, off, none⟩ = some (.int .i64 x.stream) ∧ w.cell? ⟨b, off + 1, none⟩ = some (.int .i64 x.index)
theorem sptAt_of {w w' : World} {b off : Nat} {x : Spt} (h : sptAt w b off x) (hb : w'.heap[b]? = w.heap[b]?) : sptAt w' b off x := by
  have hc : ∀ o, w'.cell? ⟨b, o, none⟩ = w.cell? ⟨b, o, none⟩ := fun o => World.cell?_of_block (a := ⟨b, o, none⟩) hb
  exact ⟨(hc _).trans h.1, (hc _).trans h.2⟩
theorem spt_cells {w : World} {B : Nat} {x : Spt} {t : TypeId} (h : w.heap[B]? = some (.cells (sptCells x) t (0, 0))) : w.cell? ⟨B, 0, none⟩ = some (.int .i64 x.stream) ∧ w.cell? ⟨B, 1, none⟩ = some (.int .i64 x.index) := by
  constructor <;> simp [World.cell?, h, sptCells]
/-- A slice value that holds these spots. -/
def SptsAt (B : Nat) (w : World) (v : Value) (es : List Spt) : Prop :=
  ∃ (a : Option Addr) (cap : Nat), v = .slice a es.length cap ∧ (es ≠ [] → ∃ b off, a = some ⟨b, off, none⟩ ∧ b < w.heap.size ∧ Safe B w b ∧ ∀ j (h : j < es.length), sptAt w b (off + j * 2) es[j])
theorem SptsAt.kept {B : Nat} {w w' : World} {v : Value} {es : List Spt} (h : SptsAt B w v es) (hk : Kept B w w') : SptsAt B w' v es := by
  obtain ⟨a, cap, hv, hc⟩ := h
  refine ⟨a, cap, hv, fun hl => ?_⟩
  obtain ⟨b, off, ha, hlt, hs, hcell⟩ := hc hl
  exact ⟨b, off, ha, Nat.lt_of_lt_of_le hlt hk.size, hk.safe hlt hs, fun j hj => sptAt_of (hcell j hj) (hk.blockS hlt hs)⟩
def SptsOk (es : List Spt) : Prop := ∀ x ∈ es, SptOk x
def sptsL (es : List Spt) : List UInt8 := es.flatMap fun x => putL x.nums
theorem sptsL_take (es : List Spt) (k : Nat) (hk : k < es.length) : sptsL (es.take (k + 1)) = sptsL (es.take k) ++ putL es[k].nums := by
  have e : ∀ (a : List Spt) (b : Spt), sptsL (a ++ [b]) = sptsL a ++ putL b.nums := fun a b => by simp [sptsL]
  rw [List.take_succ_eq_append_getElem hk, e]
theorem sptsL_len : ∀ (es : List Spt), (sptsL es).length ≤ 20 * es.length
  | [] => by simp [sptsL]
  | x :: es => by
    have h1 := sptsL_len es
    have h2 := putL_len x.nums
    have h3 : x.nums.length = 2 := rfl
    have e : sptsL (x :: es) = putL x.nums ++ sptsL es := rfl
    rw [e, List.length_append, List.length_cons]; omega

set_option maxRecDepth 100000 in
set_option maxHeartbeats 2000000 in
theorem spot_any {B : Nat} {w : World} {v : Value} {l : List UInt8} (hv : BufAt B w v l) (hB : B ≤ w.heap.size) (x : Spt) (hx : SptOk x) (hl : l.length + 20 ≤ 1000000) :
    Calls Try.prog 25 #[v, .agg #[.int .i64 x.stream, .int .i64 x.index]] w (BufOut B w (l ++ putL x.nums)) := by
  obtain ⟨w1, e1, b1, s1, h1⟩ := boxed w (sptCells x) 32
  obtain ⟨w2, e2, b2, s2, n2, c2⟩ := built w1 x.nums
  have hv1 := buf_below hv b1
  have hv2 := buf_below hv1 b2
  have HX := Lib.hid (ints_any hv2 (by omega) x.nums (by show l.length + 10 * 2 ≤ _; omega) hx (g := w1.heap.size) (by omega) n2 c2 (cap := 2))
  rw [s1] at HX
  have E1 := Lib.hid (show w.alloc (.cells #[.int .i64 x.stream, .int .i64 x.index] 32) = w1 from e1)
  have E2 := Lib.hid (show w1.alloc (.cells #[.int .i64 x.stream, .int .i64 x.index] 3) = w2 from e2)
  have hK2 := (Kept.of_below b1 hB).trans (Kept.of_below b2 (by omega))
  obtain ⟨c0, c1⟩ := spt_cells h1
  clear e1 e2 h1 hv1 hv2 n2 c2 hv hx
  go_enter Try.func25, Try.ntmps25
  go_wp2_with fail
  rw [E1.out]
  go_wp2_with fail
  rw [E2.out]
  refine HX.out.mono ?_
  rintro e w3 ⟨v3, rfl, hb3, hk3⟩
  have H3 := Lib.hid hb3
  clear hb3
  go_wp2
  go_ret
  exact ⟨_, rfl, H3.out, hK2.trans hk3⟩

set_option maxRecDepth 100000 in
set_option maxHeartbeats 4000000 in
theorem sptList_any {B : Nat} {w : World} {v ve : Value} {l : List UInt8} {es : List Spt} (hv : BufAt B w v l) (hB : B ≤ w.heap.size) (he : SptsAt B w ve es) (hok : SptsOk es) (hl : l.length + 10 + 20 * es.length ≤ 1000000) :
    Calls Try.prog 24 #[v, ve, .func (.func 25) #[] #[]] w (BufOut B w (l ++ putL [(es.length : Int)] ++ sptsL es)) := by
  obtain ⟨w1, e1, b1, s1, n1, c1⟩ := built w [(es.length : Int)]
  have hv1 := buf_below hv b1
  have hK1 := Kept.of_below b1 hB
  have HX := Lib.hid (ints_any hv1 (by omega) [(es.length : Int)] (by show l.length + 10 * 1 ≤ _; omega) (fun n hn => by simp at hn; subst hn; omega) (g := w.heap.size) (by omega) n1 c1 (cap := 1))
  have E1 := Lib.hid (show w.alloc (.cells #[.int .i64 (es.length : Int)] 3) = w1 from e1)
  have HE := Lib.hid (he.kept hK1)
  obtain ⟨ae, ce, rfl, _⟩ := he
  have HOK := Lib.hid hok
  have hpl := putL_len [(es.length : Int)]
  rw [List.length_singleton] at hpl
  clear e1 n1 c1 hv1 hv hok
  go_enter Try.func24, Try.ntmps24
  go_wp2_with fail
  rw [E1.out]
  refine HX.out.mono ?_
  rintro e w2 ⟨v2, rfl, hb2, hk2⟩
  have HB2 := Lib.hid hb2
  have hK2 := hK1.trans hk2
  have HE2 := Lib.hid (HE.out.kept hk2)
  clear hb2
  go_wp2_with fail
  go_loopw [0, 16] (fun b p wr => ∃ k : Nat, k ≤ es.length ∧ p = .int .i64 k ∧ BufAt B wr b (l ++ putL [(es.length : Int)] ++ sptsL (es.take k)) ∧ Kept B w2 wr) (fun _ p _ => es.length - (intOf p).toNat)
  case atStart => exact ⟨0, by omega, rfl, by simpa [sptsL] using HB2.out, Kept.refl _ _⟩
  case round =>
    obtain ⟨k, hk, rfl, hb, hK⟩ := hrel
    have hKs := hK.size
    have hK2s := hK2.size
    by_cases hlt : k < es.length
    · obtain ⟨a1, c1, hva, hca⟩ := HE2.out.kept hK
      cases hva
      obtain ⟨b, off, rfl, hbl, _, hcell⟩ := hca (fun h => by rw [h] at hlt; simp at hlt)
      obtain ⟨x0, x1⟩ := hcell k hlt
      have HOx := Lib.hid (HOK.out _ (List.getElem_mem hlt))
      have HT := Lib.hid (sptsL_take es k hlt)
      generalize es[k] = x at *
      generalize hm0 : l ++ putL [(es.length : Int)] ++ sptsL (es.take k) = m0 at *
      have HM0 := Lib.hid hm0
      have hml : m0.length + 20 ≤ 1000000 := by
        have := sptsL_len (es.take k)
        rw [List.length_take] at this
        rw [← hm0, List.length_append, List.length_append]; omega
      obtain ⟨w3, e3, b3, s3, h3⟩ := boxed wr (sptCells x) 32
      have E3 := Lib.hid (show wr.alloc (.cells #[.int .i64 x.stream, .int .i64 x.index] 32) = w3 from e3)
      have HE3 := Lib.hid (spot_any (buf_below hb b3) (by omega) x HOx.out hml)
      have hK3 := hK.trans (Kept.of_below b3 (by omega))
      clear hcell hca hb hm0 e3 h3
      go_wp2_with fail
      rw [E3.out]
      refine HE3.out.mono ?_
      rintro e w4 ⟨v4, rfl, hb4, hk4⟩
      have HB4 := Lib.hid (show BufAt B w4 v4 (l ++ putL [(es.length : Int)] ++ sptsL (es.take (k + 1))) by rw [HT.out, ← List.append_assoc, HM0.out]; exact hb4)
      have hK4 := hK3.trans hk4
      clear hb4
      go_wp2
      go_roundw
      case rel => exact ⟨k + 1, by omega, by go_num, HB4.out, hK4⟩
      case measure => simp [intOf]; omega
    · obtain rfl : k = es.length := by omega
      rw [List.take_length] at hb
      have HB4 := Lib.hid hb
      clear hb
      go_wp2
      go_ret
      exact ⟨_, rfl, HB4.out, hK2.trans hK⟩
end Go.Proofs.Ytalilifegclelaa
