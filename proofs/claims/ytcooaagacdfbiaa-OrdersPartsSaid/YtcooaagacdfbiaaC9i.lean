/- The plain laws of orders. -/
import Derived.Test.YtcooaagacdfbiaaC9h
namespace Go.Proofs.Ytcooaagacdfbiaa
open Go.RowKit

theorem o_lo {a : Int} (h : (Lit.int .i64 a).wf = true) : -9223372036854775808 ≤ a := by
  simp only [Lit.wf, Bool.and_eq_true, decide_eq_true_eq] at h; exact h.1
theorem o_hi {a : Int} (h : (Lit.int .i64 a).wf = true) : a ≤ 9223372036854775807 := by
  simp only [Lit.wf, Bool.and_eq_true, decide_eq_true_eq] at h; exact h.2
theorem toList_app (a b : ByteArray) : (a ++ b).data.toList = a.data.toList ++ b.data.toList := by rw [ByteArray.data_append, Array.toList_append]
theorem getI_put (x y : List UInt8) (n : Int) (h0 : -9223372036854775808 ≤ n) (h1 : n ≤ 9223372036854775807) : getI (x ++ Marks.put n ++ y) (x.length : Int) = some (n, x.length + (Marks.put n).length) := by
  have := (Marks.put_len n).1
  unfold getI
  rw [if_pos ⟨by omega, by simp only [List.length_append]; omega⟩, Int.toNat_natCast, List.append_assoc, List.drop_left, Marks.get_put _ _ h0 h1]
  rfl

theorem getK_put : ∀ (xs : List Int) (x y : List UInt8), (∀ n ∈ xs, -9223372036854775808 ≤ n ∧ n ≤ 9223372036854775807) →
    getK (x ++ xs.flatMap Marks.put ++ y) xs.length x.length = some (xs, x.length + (xs.flatMap Marks.put).length)
  | [], x, y, _ => by simp [getK]
  | n :: xs, x, y, h => by
    have h0 := h n (by simp)
    have ih := getK_put xs (x ++ Marks.put n) y (fun m hm => h m (by simp [hm]))
    have e1 : x ++ (n :: xs).flatMap Marks.put ++ y = x ++ Marks.put n ++ (xs.flatMap Marks.put ++ y) := by simp
    have e2 : x ++ (n :: xs).flatMap Marks.put ++ y = x ++ Marks.put n ++ xs.flatMap Marks.put ++ y := by simp
    rw [List.length_cons, getK]
    have g : getI (x ++ (n :: xs).flatMap Marks.put ++ y) (x.length : Int) = some (n, x.length + (Marks.put n).length) := by rw [e1]; exact getI_put _ _ _ h0.1 h0.2
    rw [g]
    simp only [Option.bind_some]
    rw [List.length_append] at ih
    rw [e2, ih]
    simp [Nat.add_assoc]

theorem put_getK : ∀ (n : Nat) (l : List UInt8) (p : Nat) (xs : List Int) (q : Nat), getK l n p = some (xs, q) → p ≤ q ∧ (n ≠ 0 → q ≤ l.length) ∧ (l.drop p).take (q - p) = xs.flatMap Marks.put ∧ xs.length = n
  | 0, l, p, xs, q, h => by simp [getK] at h; obtain ⟨rfl, rfl⟩ := h; simp
  | n + 1, l, p, xs, q, h => by
    rw [getK, Option.bind_eq_some_iff] at h
    obtain ⟨⟨x, m⟩, hx, h⟩ := h
    rw [Option.map_eq_some_iff] at h
    obtain ⟨⟨ys, q'⟩, hy, h⟩ := h
    simp only [Prod.mk.injEq] at h
    obtain ⟨rfl, rfl⟩ := h
    obtain ⟨_, h1, _, h2, _, _, h3⟩ := getI_bounds hx
    obtain ⟨i1, i2, i3, i4⟩ := put_getK n l m ys q' hy
    have h1' : p < m := by omega
    have hq : q' ≤ l.length := by
      cases n with
      | zero => simp [getK] at hy; omega
      | succ k => exact i2 (by omega)
    refine ⟨by omega, fun _ => hq, ?_, by simp [i4]⟩
    rw [Int.toNat_natCast] at h3
    rw [List.flatMap_cons, ← h3, ← i3, show q' - p = (m - p) + (q' - m) by omega, List.take_add, List.drop_drop, show p + (m - p) = m by omega]

def Ord.all (o : Ord) : List Int := [o.id, o.stream, o.expect, o.kind, o.arg]
theorem ordB_all (o : Ord) : ordB o = o.all.flatMap Marks.put := by simp [ordB, Ord.all]
theorem ordOf_all (o : Ord) : ordOf o.all = o := rfl
theorem all_i64 {o : Ord} (h : mayB o = true) : ∀ n ∈ o.all, -9223372036854775808 ≤ n ∧ n ≤ 9223372036854775807 := by
  intro n hn
  simp only [Ord.all, List.mem_cons, List.not_mem_nil, or_false] at hn
  rcases hn with rfl | rfl | rfl | rfl | rfl
  · exact mayB_i64 h 0 (by decide)
  · exact mayB_i64 h 1 (by decide)
  · exact mayB_i64 h 2 (by decide)
  · exact mayB_i64 h 3 (by decide)
  · exact mayB_i64 h 4 (by decide)
theorem takeO_tail {o : Ord} (h : mayB o = true) (y : List UInt8) : takeO (ordB o ++ y) 0 = some (o, (ordB o).length) := by
  have := getK_put o.all [] y (all_i64 h)
  unfold takeO
  rw [ordB_all]
  rw [List.nil_append, List.length_nil, Nat.zero_add] at this
  rw [show (5 : Nat) = o.all.length from rfl, this]
  simp [ordOf_all]
theorem dec_enc {o : Ord} (h : mayB o = true) : decO (ordB o) = some o := by
  have := takeO_tail h []
  rw [List.append_nil] at this
  unfold decO
  rw [this]; simp [h]
theorem five_all : ∀ (xs : List Int), xs.length = 5 → (ordOf xs).all = xs
  | [_, _, _, _, _], _ => rfl
theorem enc_dec {l : List UInt8} {o : Ord} (h : decO l = some o) : mayB o = true ∧ ordB o = l := by
  unfold decO takeO at h
  rw [Option.bind_eq_some_iff] at h
  obtain ⟨⟨o', q⟩, h1, h2⟩ := h
  rw [Option.map_eq_some_iff] at h1
  obtain ⟨⟨xs, q'⟩, h1, h3⟩ := h1
  simp only [Prod.mk.injEq] at h3
  obtain ⟨rfl, rfl⟩ := h3
  split at h2
  · rename_i hc
    simp only [Option.some.injEq] at h2
    subst h2
    obtain ⟨i1, i2, i3, i4⟩ := put_getK 5 l 0 xs q' h1
    refine ⟨hc.2, ?_⟩
    rw [ordB_all, five_all xs i4, ← i3, show q' = l.length from hc.1]; simp
  · cases h2
end Go.Proofs.Ytcooaagacdfbiaa
