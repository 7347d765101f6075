/- Get, in each of its two ways; how many of something follow. -/
import Derived.Test.YtnekpehgaojkaaaDoorC1c
namespace Go.Proofs.YtnekpehgaojkaaaDoor
open Go.RowKit

theorem str_append (a b : List UInt8) : str a ++ str b = str (a ++ b) := by
  unfold str; rw [ByteArray.mk_append_mk]
theorem get_yes {s : ByteArray} {a n : Int} {m : Nat} (hs : s.size ≤ maxLen) (h : getI s.data.toList a = some (n, m)) (w : World) :
    Calls Tryd.prog 49 #[.string s, .int .i64 a] w fun e w' => e = .returned (.tuple #[.int .i64 n, .int .i64 (m : Int), .bool true]) ∧ w = w' := by
  have := get_any s hs a w
  rw [h] at this; exact this
theorem get_no {s : ByteArray} {a : Int} (hs : s.size ≤ maxLen) (h : getI s.data.toList a = none) (w : World) :
    Calls Tryd.prog 49 #[.string s, .int .i64 a] w fun e w' => e = .returned (.tuple #[.int .i64 0, .int .i64 0, .bool false]) ∧ w = w' := by
  have := get_any s hs a w
  rw [h] at this; exact this
theorem refGet_yes {s : ByteArray} {a n : Int} {m : Nat} (hs : s.size ≤ maxLen) (h : getI s.data.toList a = some (n, m)) (w : World) :
    Calls Tryd.prog 50 #[.string s, .int .i64 a] w fun e w' => e = .returned (.tuple #[.int .i64 n, .int .i64 (m : Int), .bool true]) ∧ Below w.heap.size w w' := by
  have := refGet_any s hs a w
  rw [h] at this; exact this
theorem refGet_no {s : ByteArray} {a : Int} (hs : s.size ≤ maxLen) (h : getI s.data.toList a = none) (w : World) :
    Calls Tryd.prog 50 #[.string s, .int .i64 a] w fun e w' => e = .returned (.tuple #[.int .i64 0, .int .i64 0, .bool false]) ∧ Below w.heap.size w w' := by
  have := refGet_any s hs a w
  rw [h] at this; exact this

theorem getI_bounds {l : List UInt8} {a n : Int} {m : Nat} (h : getI l a = some (n, m)) : 0 ≤ a ∧ a < m ∧ m ≤ a + 10 ∧ m ≤ l.length ∧ -9223372036854775808 ≤ n ∧ n ≤ 9223372036854775807 ∧ (l.drop a.toNat).take (m - a.toNat) = Marks.put n := by
  unfold getI at h
  split at h
  · rename_i ha
    simp only [Option.map_eq_some_iff, Prod.mk.injEq] at h
    obtain ⟨⟨n', k⟩, hg, rfl, rfl⟩ := h
    obtain ⟨h1, h2, h3, h4, h5, h6, _⟩ := Marks.put_get _ _ _ hg
    rw [List.length_drop] at h5
    dsimp only
    refine ⟨ha.1, by omega, by omega, by omega, h1, h2, ?_⟩
    rw [show a.toNat + k - a.toNat = k by omega]; exact h6
  · cases h

/-- How many of something follow. -/
def getC (l : List UInt8) (a : Int) : Option (Int × Nat) := (getI l a).bind fun x => if 0 ≤ x.1 ∧ x.1 ≤ (l.length : Int) - (x.2 : Int) then some x else none
theorem getC_yes {l : List UInt8} {a n : Int} {m : Nat} (h : getI l a = some (n, m)) (hn : 0 ≤ n ∧ n ≤ (l.length : Int) - (m : Int)) : getC l a = some (n, m) := by
  unfold getC; rw [h]; simp only [Option.bind_some, hn, and_self, if_true]
theorem getC_no {l : List UInt8} {a n : Int} {m : Nat} (h : getI l a = some (n, m)) (hn : ¬ (0 ≤ n ∧ n ≤ (l.length : Int) - (m : Int))) : getC l a = none := by
  unfold getC; rw [h]; simp only [Option.bind_some, hn, if_false]
theorem getC_none {l : List UInt8} {a : Int} (h : getI l a = none) : getC l a = none := by
  unfold getC; rw [h]; rfl
theorem getC_some {l : List UInt8} {a n : Int} {m : Nat} (h : getC l a = some (n, m)) : getI l a = some (n, m) ∧ 0 ≤ n ∧ n ≤ (l.length : Int) - (m : Int) := by
  unfold getC at h
  rw [Option.bind_eq_some_iff] at h
  obtain ⟨x, hx, hi⟩ := h
  split at hi
  · rename_i hn
    cases hi; exact ⟨hx, hn⟩
  · cases hi

end Go.Proofs.YtnekpehgaojkaaaDoor
