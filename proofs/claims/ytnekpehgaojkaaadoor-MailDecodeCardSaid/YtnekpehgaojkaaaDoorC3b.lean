/- Frames as lists of bytes. Plain, without the program. -/
import Derived.Test.YtnekpehgaojkaaaDoorC1d
import Derived.Test.YtnekpehgaojkaaaDoorCrcNum
namespace Go.Proofs.YtnekpehgaojkaaaDoor
open Go.RowKit

/-- A number's four bytes, the low one first. -/
def le4 (n : Nat) : List UInt8 := [UInt8.ofNat n, UInt8.ofNat (n / 256), UInt8.ofNat (n / 65536), UInt8.ofNat (n / 16777216)]
theorem ofNat_val (n : Nat) : (UInt8.ofNat n).toNat = n % 256 := by simp
theorem le4_inj {a b : Nat} (ha : a < 4294967296) (hb : b < 4294967296) (h : le4 a = le4 b) : a = b := by
  simp only [le4, List.cons.injEq, and_true] at h
  obtain ⟨h0, h1, h2, h3⟩ := h
  have g0 := congrArg UInt8.toNat h0
  have g1 := congrArg UInt8.toNat h1
  have g2 := congrArg UInt8.toNat h2
  have g3 := congrArg UInt8.toNat h3
  simp only [ofNat_val] at g0 g1 g2 g3
  omega
/-- A text's check number, as bytes. -/
def chkL (l : List UInt8) : List UInt8 := le4 (Crc.sum l).toNat
theorem chk_len (l : List UInt8) : (chkL l).length = 4 := rfl
theorem chk_iff (a b : List UInt8) : chkL a = chkL b ↔ Crc.sum a = Crc.sum b := by
  constructor
  · intro h
    exact BitVec.eq_of_toNat_eq (le4_inj (Crc.sum a).isLt (Crc.sum b).isLt h)
  · intro h
    unfold chkL; rw [h]
/-- A payload's frame. -/
def frameL (p : List UInt8) : List UInt8 := Marks.put p.length ++ chkL (Marks.put p.length ++ p) ++ p
theorem frame_len (p : List UInt8) : (frameL p).length = (Marks.put p.length).length + 4 + p.length := by
  unfold frameL
  simp only [List.length_append, chk_len]
theorem frame_size (p : List UInt8) : 5 ≤ (frameL p).length ∧ (frameL p).length ≤ 14 + p.length := by
  have := Marks.put_len (p.length : Int)
  rw [frame_len]; omega
/-- The payload of the frame that stands at a place, and the place behind it. -/
def nextL (l : List UInt8) (a : Int) : Option (List UInt8 × Nat) :=
  (getI l a).bind fun x => if 0 ≤ x.1 ∧ x.1 ≤ 8192 ∧ x.2 + 4 + x.1.toNat ≤ l.length ∧ chkL ((l.drop a.toNat).take (x.2 - a.toNat) ++ (l.drop (x.2 + 4)).take x.1.toNat) = (l.drop x.2).take 4 then
    some ((l.drop (x.2 + 4)).take x.1.toNat, x.2 + 4 + x.1.toNat) else none

theorem getI_at (x y : List UInt8) (n : Int) (h0 : -9223372036854775808 ≤ n) (h1 : n ≤ 9223372036854775807) : getI (x ++ (Marks.put n ++ y)) (x.length : Int) = some (n, x.length + (Marks.put n).length) := by
  have := (Marks.put_len n).1
  unfold getI
  rw [if_pos ⟨by omega, by simp only [List.length_append]; omega⟩, Int.toNat_natCast, List.drop_left, Marks.get_put _ _ h0 h1]
  rfl
theorem drop_at (x y : List UInt8) (k : Nat) : (x ++ y).drop (x.length + k) = y.drop k := by
  rw [← List.drop_drop, List.drop_left]
/-- What stands at a place where a mark, four bytes and as many as the mark says stand. -/
theorem next_at (x y c p : List UInt8) (hc : c.length = 4) (hp : p.length ≤ 8192) :
    nextL (x ++ (Marks.put p.length ++ (c ++ (p ++ y)))) (x.length : Int) = if chkL (Marks.put p.length ++ p) = c then some (p, x.length + ((Marks.put p.length).length + 4 + p.length)) else none := by
  unfold nextL
  rw [getI_at _ _ _ (by omega) (by omega)]
  simp only [Option.bind_some, Int.toNat_natCast]
  have d1 : (x ++ (Marks.put p.length ++ (c ++ (p ++ y)))).drop (x.length + (Marks.put p.length).length) = c ++ (p ++ y) := by rw [drop_at, List.drop_left]
  have d2 : (x ++ (Marks.put p.length ++ (c ++ (p ++ y)))).drop (x.length + (Marks.put p.length).length + 4) = p ++ y := by rw [← List.drop_drop, d1, ← hc, List.drop_left]
  have t0 : ((x ++ (Marks.put p.length ++ (c ++ (p ++ y)))).drop x.length).take (x.length + (Marks.put p.length).length - x.length) = Marks.put p.length := by
    rw [List.drop_left, Nat.add_sub_cancel_left, List.take_left]
  rw [d1, d2, t0, List.take_left, ← hc, List.take_left, hc]
  have hb : x.length + (Marks.put p.length).length + 4 + p.length ≤ (x ++ (Marks.put p.length ++ (c ++ (p ++ y)))).length := by
    simp only [List.length_append, hc]; omega
  by_cases h : chkL (Marks.put p.length ++ p) = c
  · rw [if_pos ⟨by omega, by omega, hb, h⟩, if_pos h]
    congr 2
    omega
  · rw [if_neg (fun hh => h hh.2.2.2), if_neg h]
theorem next_frame (x y p : List UInt8) (hp : p.length ≤ 8192) : nextL (x ++ (frameL p ++ y)) (x.length : Int) = some (p, x.length + (frameL p).length) := by
  have := next_at x y (chkL (Marks.put p.length ++ p)) p (chk_len _) hp
  rw [if_pos rfl] at this
  rw [frame_len, ← this]
  unfold frameL
  simp only [List.append_assoc]
theorem frame_next {l : List UInt8} {a : Int} {p : List UInt8} {m : Nat} (h : nextL l a = some (p, m)) :
    0 ≤ a ∧ p.length ≤ 8192 ∧ m = a.toNat + (frameL p).length ∧ m ≤ l.length ∧ (l.drop a.toNat).take (frameL p).length = frameL p := by
  unfold nextL at h
  rw [Option.bind_eq_some_iff] at h
  obtain ⟨⟨n, q⟩, hg, h⟩ := h
  obtain ⟨b1, b2, b3, b4, b5, b6, b7⟩ := getI_bounds hg
  split at h
  · rename_i hc
    obtain ⟨c1, c2, c3, c4⟩ := hc
    simp only [Option.some.injEq, Prod.mk.injEq] at h
    obtain ⟨e1, e2⟩ := h
    dsimp only at *
    have hpl : p.length = n.toNat := by rw [← e1, List.length_take, List.length_drop]; omega
    have hn : (p.length : Int) = n := by omega
    have hM : (Marks.put n).length = q - a.toNat := by rw [← b7, List.length_take, List.length_drop]; omega
    have hf : frameL p = (l.drop a.toNat).take (frameL p).length := by
      rw [frame_len, hn, hM, show q - a.toNat + 4 + p.length = (q - a.toNat) + (4 + p.length) by omega, List.take_add, b7, List.drop_drop, show a.toNat + (q - a.toNat) = q by omega, List.take_add, ← c4, List.drop_drop, hpl, e1, b7]
      unfold frameL
      rw [hn, List.append_assoc]
    refine ⟨b1, by omega, ?_, by omega, hf.symm⟩
    rw [frame_len, hn, hM]
    omega
  · cases h
theorem next_none {l : List UInt8} {a : Int} (h : getI l a = none) : nextL l a = none := by
  unfold nextL; rw [h]; rfl
theorem next_end (l : List UInt8) : nextL l (l.length : Int) = none := next_none (by unfold getI; rw [if_neg (by omega)])

/-- Frames, one behind the other, from a place up to a place. -/
def Chain (l : List UInt8) : Nat → List (List UInt8) → Nat → Prop
  | a, [], b => a = b
  | a, p :: ps, b => ∃ m, nextL l a = some (p, m) ∧ Chain l m ps b
/-- The payloads that are there from the beginning on, and where they end. -/
def WholeL (l : List UInt8) (ps : List (List UInt8)) (e : Nat) : Prop := Chain l 0 ps e ∧ nextL l e = none
theorem chain_snoc {l : List UInt8} : ∀ {a b m : Nat} {ps : List (List UInt8)} {p : List UInt8}, Chain l a ps b → nextL l b = some (p, m) → Chain l a (ps ++ [p]) m
  | _, _, _, [], _, h, hp => by cases h; exact ⟨_, hp, rfl⟩
  | _, _, _, _ :: _, _, ⟨k, h1, h2⟩, hp => ⟨k, h1, chain_snoc h2 hp⟩
theorem chain_unique {l : List UInt8} : ∀ {a b b' : Nat} {ps ps' : List (List UInt8)}, Chain l a ps b → nextL l b = none → Chain l a ps' b' → nextL l b' = none → ps = ps' ∧ b = b'
  | _, _, _, [], [], h, _, h', _ => by cases h; cases h'; exact ⟨rfl, rfl⟩
  | _, _, _, [], _ :: _, h, hn, ⟨m, h1, _⟩, _ => by cases h; rw [hn] at h1; cases h1
  | _, _, _, _ :: _, [], ⟨m, h1, _⟩, _, h', hn' => by cases h'; rw [hn'] at h1; cases h1
  | _, _, _, _ :: _, _ :: _, ⟨m, h1, h2⟩, hn, ⟨m', h1', h2'⟩, hn' => by
    rw [h1] at h1'
    cases h1'
    obtain ⟨e1, e2⟩ := chain_unique h2 hn h2' hn'
    exact ⟨by rw [e1], e2⟩
theorem whole_unique {l : List UInt8} {b b' : Nat} {ps ps' : List (List UInt8)} (h : WholeL l ps b) (h' : WholeL l ps' b') : ps = ps' ∧ b = b' := chain_unique h.1 h.2 h'.1 h'.2
theorem chain_end {l : List UInt8} : ∀ {a b : Nat} {ps : List (List UInt8)}, Chain l a ps b → a ≤ l.length → b ≤ l.length ∧ a + 5 * ps.length ≤ b
  | _, _, [], h, ha => by cases h; exact ⟨ha, by simp⟩
  | a, b, p :: ps, ⟨m, h1, h2⟩, ha => by
    obtain ⟨_, _, e, hm, _⟩ := frame_next h1
    obtain ⟨r1, r2⟩ := chain_end h2 hm
    have := (frame_size p).1
    rw [Int.toNat_natCast] at e
    exact ⟨r1, by rw [List.length_cons]; omega⟩
theorem chain_small {l : List UInt8} : ∀ {a b : Nat} {ps : List (List UInt8)}, Chain l a ps b → ∀ p ∈ ps, p.length ≤ 8192
  | _, _, [], _, p, hp => by cases hp
  | a, b, q :: ps, ⟨m, h1, h2⟩, p, hp => by
    rcases List.mem_cons.1 hp with rfl | hp
    · exact (frame_next h1).2.1
    · exact chain_small h2 p hp
end Go.Proofs.YtnekpehgaojkaaaDoor
