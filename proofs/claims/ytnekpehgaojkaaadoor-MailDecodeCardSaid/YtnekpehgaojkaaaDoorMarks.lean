/- Marks of ints as lists of bytes: what is put, what is got, that one undoes the other, and how the reference's way of getting comes to the same. Plain, without the program. -/
namespace Go.Proofs.YtnekpehgaojkaaaDoor.Marks

def putF : Nat → Nat → List UInt8
  | 0, f => [UInt8.ofNat f]
  | k + 1, f => if f < 128 then [UInt8.ofNat f] else UInt8.ofNat (f % 128 + 128) :: putF k (f / 128)
def getF : Nat → List UInt8 → Option (Nat × Nat)
  | 0, _ => none
  | _ + 1, [] => none
  | k + 1, c :: l =>
    if 128 ≤ c.toNat then (getF k l).map (fun x => (c.toNat - 128 + 128 * x.1, x.2 + 1))
    else if c.toNat = 0 ∧ k + 1 < 10 ∨ k = 0 ∧ 1 < c.toNat then none else some (c.toNat, 1)
def cnt : Nat → Nat → Nat
  | 0, _ => 1
  | k + 1, f => if f < 128 then 1 else cnt k (f / 128) + 1
def val : List UInt8 → Nat
  | [] => 0
  | c :: l => c.toNat % 128 + 128 * val l
def fold (n : Int) : Nat := if 0 ≤ n then (2 * n).toNat else (-(2 * n) - 1).toNat
def unfold (f : Nat) : Int := if f % 2 = 0 then ((f / 2 : Nat) : Int) else -((f / 2 : Nat) : Int) - 1

theorem unfold_fold (n : Int) : unfold (fold n) = n := by
  unfold unfold fold; split <;> split <;> omega
theorem fold_unfold (f : Nat) : fold (unfold f) = f := by
  unfold unfold fold; split <;> split <;> omega
theorem fold_lt (n : Int) (h0 : -9223372036854775808 ≤ n) (h1 : n ≤ 9223372036854775807) : fold n < 18446744073709551616 := by
  unfold fold; split <;> omega
theorem unfold_lo (f : Nat) (h : f < 18446744073709551616) : -9223372036854775808 ≤ unfold f := by
  unfold unfold; split <;> omega
theorem unfold_hi (f : Nat) (h : f < 18446744073709551616) : unfold f ≤ 9223372036854775807 := by
  unfold unfold; split <;> omega

theorem toNat_ofNat (f : Nat) (h : f < 256) : (UInt8.ofNat f).toNat = f := by
  rw [UInt8.toNat_ofNat']; exact Nat.mod_eq_of_lt (by omega)
theorem ofNat_toNat (c : UInt8) : UInt8.ofNat c.toNat = c := UInt8.ofNat_toNat

theorem putF_len (k f : Nat) : 1 ≤ (putF k f).length ∧ (putF k f).length ≤ k + 1 := by
  induction k generalizing f with
  | zero => simp [putF]
  | succ k ih =>
    have := ih (f / 128)
    unfold putF; split
    · simp
    · simp; omega
theorem putF_cnt (k f : Nat) : (putF k f).length = cnt k f := by
  induction k generalizing f with
  | zero => rfl
  | succ k ih =>
    unfold putF cnt; split
    · rfl
    · simp [ih]

theorem putF_shape (k f : Nat) (h : f < 2 * 128 ^ k) : val (putF k f) = f ∧ ∃ init last, putF k f = init ++ [last] ∧ (∀ c ∈ init, 128 ≤ c.toNat) ∧ last.toNat < 128 := by
  induction k generalizing f with
  | zero =>
    have h' : f < 2 := by simpa using h
    have := toNat_ofNat f (by omega)
    exact ⟨by simp [putF, val, this]; omega, [], UInt8.ofNat f, rfl, by simp, by omega⟩
  | succ k ih =>
    unfold putF
    by_cases hf : f < 128
    · have := toNat_ofNat f (by omega)
      rw [if_pos hf]
      exact ⟨by simp [val, this]; omega, [], UInt8.ofNat f, rfl, by simp, by omega⟩
    · rw [if_neg hf]
      have hd : f / 128 < 2 * 128 ^ k := by
        rw [Nat.pow_succ] at h; omega
      obtain ⟨hv, init, last, he, hi, hl⟩ := ih (f / 128) hd
      have hc := toNat_ofNat (f % 128 + 128) (by omega)
      refine ⟨by simp only [val, hv, hc]; omega, UInt8.ofNat (f % 128 + 128) :: init, last, by rw [he]; rfl, ?_, hl⟩
      intro c hm
      rcases List.mem_cons.1 hm with rfl | hm
      · omega
      · exact hi c hm

theorem getF_putF (k f : Nat) (rest : List UInt8) (hk : k ≤ 9) (h : f < 2 * 128 ^ k) (h0 : f = 0 → k = 9) :
    getF (k + 1) (putF k f ++ rest) = some (f, (putF k f).length) := by
  induction k generalizing f with
  | zero =>
    have h' : f < 2 := by simpa using h
    have := toNat_ofNat f (by omega)
    have h1 : f = 1 := by
      rcases Nat.eq_zero_or_pos f with e | e
      · have := h0 e; omega
      · omega
    subst h1
    simp [putF, getF]
  | succ k ih =>
    unfold putF
    by_cases hf : f < 128
    · have hc := toNat_ofNat f (by omega)
      rw [if_pos hf]
      show getF (k + 1 + 1) (UInt8.ofNat f :: rest) = _
      unfold getF
      rw [hc, if_neg (by omega), if_neg (by omega)]
      rfl
    · rw [if_neg hf]
      have hc := toNat_ofNat (f % 128 + 128) (by omega)
      have hd : f / 128 < 2 * 128 ^ k := by
        rw [Nat.pow_succ] at h; omega
      have hi := ih (f / 128) (by omega) hd (by omega)
      show getF (k + 1 + 1) (UInt8.ofNat (f % 128 + 128) :: (putF k (f / 128) ++ rest)) = _
      unfold getF
      rw [hc, if_pos (by omega), hi]
      simp only [Option.map_some, List.length_cons]
      congr 2
      omega

theorem putF_getF (k : Nat) (l : List UInt8) (f m : Nat) (hk : k ≤ 9) (h : getF (k + 1) l = some (f, m)) :
    f < 2 * 128 ^ k ∧ (f = 0 → k = 9) ∧ m ≤ l.length ∧ l.take m = putF k f ∧ m = (putF k f).length := by
  induction k generalizing l f m with
  | zero =>
    cases l with
    | nil => simp [getF] at h
    | cons c l =>
      unfold getF at h
      split at h
      · simp [getF] at h
      · split at h
        · cases h
        · rename_i h1 h2
          simp only [Option.some.injEq, Prod.mk.injEq] at h
          obtain ⟨rfl, rfl⟩ := h
          have h3 : c.toNat ≠ 0 := fun e => h2 (.inl ⟨e, by omega⟩)
          have h4 : ¬ 1 < c.toNat := fun e => h2 (.inr ⟨rfl, e⟩)
          refine ⟨by omega, fun e => absurd e h3, by simp, ?_, rfl⟩
          simp [putF]
  | succ k ih =>
    cases l with
    | nil => simp [getF] at h
    | cons c l =>
      unfold getF at h
      split at h
      · rename_i hc
        simp only [Option.map_eq_some_iff] at h
        obtain ⟨⟨f', m'⟩, hg, he⟩ := h
        simp only [Prod.mk.injEq] at he
        obtain ⟨rfl, rfl⟩ := he
        obtain ⟨h1, h2, h3, h4, h5⟩ := ih l f' m' (by omega) hg
        have hlt := c.toNat_lt
        have h6 : f' ≠ 0 := fun e => by have := h2 e; omega
        have h7 : (c.toNat - 128 + 128 * f') / 128 = f' := by omega
        have h8 : (c.toNat - 128 + 128 * f') % 128 + 128 = c.toNat := by omega
        have hput : putF (k + 1) (c.toNat - 128 + 128 * f') = c :: putF k f' := by
          rw [putF, if_neg (by omega), h7, h8, ofNat_toNat]
        refine ⟨by rw [Nat.pow_succ]; omega, fun e => by omega, by simp; omega, ?_, ?_⟩
        · rw [hput, List.take_succ_cons, h4]
        · rw [hput, h5]; simp
      · split at h
        · cases h
        · rename_i h1 h2
          simp only [Option.some.injEq, Prod.mk.injEq] at h
          obtain ⟨rfl, rfl⟩ := h
          have hput : putF (k + 1) c.toNat = [c] := by
            unfold putF
            rw [if_pos (by omega), ofNat_toNat]
          have hp : 0 < 128 ^ k := Nat.pow_pos (by decide)
          refine ⟨by rw [Nat.pow_succ]; omega, fun e => ?_, by simp, by rw [hput]; simp, by rw [hput]; rfl⟩
          exact Classical.byContradiction fun e2 => h2 (.inl ⟨e, by omega⟩)

theorem pow9 : 2 * 128 ^ 9 = 18446744073709551616 := by decide

/-! The int's mark. -/
def put (n : Int) : List UInt8 := putF 9 (fold n)
def get (l : List UInt8) : Option (Int × Nat) := (getF 10 l).map (fun x => (unfold x.1, x.2))

theorem put_len (n : Int) : 1 ≤ (put n).length ∧ (put n).length ≤ 10 := putF_len 9 _

theorem get_put (n : Int) (rest : List UInt8) (h0 : -9223372036854775808 ≤ n) (h1 : n ≤ 9223372036854775807) : get (put n ++ rest) = some (n, (put n).length) := by
  unfold get put
  rw [getF_putF 9 (fold n) rest (by omega) (by rw [pow9]; exact fold_lt n h0 h1) (fun _ => rfl)]
  simp [unfold_fold]

theorem put_get (l : List UInt8) (n : Int) (m : Nat) (h : get l = some (n, m)) :
    -9223372036854775808 ≤ n ∧ n ≤ 9223372036854775807 ∧ 1 ≤ m ∧ m ≤ 10 ∧ m ≤ l.length ∧ l.take m = put n ∧ m = (put n).length := by
  unfold get at h
  simp only [Option.map_eq_some_iff, Prod.mk.injEq] at h
  obtain ⟨⟨f, m'⟩, hg, rfl, rfl⟩ := h
  obtain ⟨h1, h2, h3, h4, h5⟩ := putF_getF 9 l f m' (by omega) hg
  rw [pow9] at h1
  have hl := putF_len 9 f
  unfold put
  dsimp only at *
  rw [fold_unfold]
  exact ⟨unfold_lo f h1, unfold_hi f h1, by omega, by omega, h3, h4, h5⟩

/-- Of one text no two marks stand at one place. -/
theorem get_iff (l : List UInt8) (n : Int) (m : Nat) : get l = some (n, m) ↔ (-9223372036854775808 ≤ n ∧ n ≤ 9223372036854775807) ∧ l.take m = put n ∧ m = (put n).length := by
  constructor
  · intro h
    obtain ⟨h1, h2, _, _, _, h6, h7⟩ := put_get l n m h
    exact ⟨⟨h1, h2⟩, h6, h7⟩
  · rintro ⟨⟨h1, h2⟩, h3, h4⟩
    have e : l = put n ++ l.drop m := by rw [← h3, List.take_append_drop]
    rw [e, get_put n _ h1 h2, h4]

theorem put_inj {a b : Int} {r s : List UInt8} (ha : -9223372036854775808 ≤ a ∧ a ≤ 9223372036854775807) (hb : -9223372036854775808 ≤ b ∧ b ≤ 9223372036854775807) (h : put a ++ r = put b ++ s) : a = b ∧ r = s := by
  have h1 := get_put a r ha.1 ha.2
  rw [h, get_put b s hb.1 hb.2] at h1
  simp only [Option.some.injEq, Prod.mk.injEq] at h1
  have e := h1.1
  subst e
  exact ⟨rfl, List.append_cancel_left h⟩

/-! The reference's way: where the mark ends, what it is worth, whether it is that number's mark. -/
theorem shape_end (init : List UInt8) (last : UInt8) (l : List UInt8) (e : Nat) (hi : ∀ c ∈ init, 128 ≤ c.toNat) (hl : last.toNat < 128)
    (hpre : init ++ [last] <+: l) (he : e < l.length) (h1 : ∀ j (h : j < l.length), j < e → 128 ≤ l[j].toNat) (h2 : l[e].toNat < 128) : init.length = e := by
  obtain ⟨t, ht⟩ := hpre
  subst ht
  rcases Nat.lt_trichotomy init.length e with h | h | h
  · have := h1 init.length (by simp) h
    simp at this; omega
  · exact h
  · have h3 : (init ++ [last] ++ t)[e] = init[e] := by
      simp [List.getElem_append_left h]
    rw [h3] at h2
    have := hi _ (List.getElem_mem h)
    omega

theorem getF_none_far (l : List UInt8) (h : ∀ j (h : j < l.length), j ≤ 9 → 128 ≤ l[j].toNat) : getF 10 l = none := by
  cases hg : getF 10 l with
  | none => rfl
  | some x =>
    obtain ⟨f, m⟩ := x
    obtain ⟨h1, _, h3, h4, h5⟩ := putF_getF 9 l f m (by omega) hg
    obtain ⟨_, init, last, e, _, hl⟩ := putF_shape 9 f h1
    have hlen := putF_len 9 f
    rw [e] at h4 h5 hlen
    simp only [List.length_append, List.length_cons, List.length_nil] at h5 hlen
    have h6 : init.length < l.length := by omega
    have h7 := h init.length h6 (by omega)
    have h8 : l[init.length] = last := by
      have : (l.take m)[init.length]? = some last := by rw [h4]; simp
      rw [List.getElem?_take_of_lt (by omega), List.getElem?_eq_getElem h6] at this
      exact Option.some.inj this
    rw [h8] at h7; omega

theorem getF_ref (l : List UInt8) (e : Nat) (he : e < l.length) (h1 : ∀ j (h : j < l.length), j < e → 128 ≤ l[j].toNat) (h2 : l[e].toNat < 128) :
    getF 10 l = if putF 9 (val (l.take (e + 1)) % 18446744073709551616) = l.take (e + 1) then some (val (l.take (e + 1)) % 18446744073709551616, e + 1) else none := by
  split
  · rename_i h
    have hF : val (l.take (e + 1)) % 18446744073709551616 < 2 * 128 ^ 9 := by rw [pow9]; exact Nat.mod_lt _ (by decide)
    have hg := getF_putF 9 _ (l.drop (e + 1)) (by omega) hF (fun _ => rfl)
    rw [h, List.take_append_drop, List.length_take] at hg
    rw [hg]
    congr 2
    omega
  · rename_i h
    cases hg : getF 10 l with
    | none => rfl
    | some x =>
      obtain ⟨f, m⟩ := x
      obtain ⟨h3, _, h5, h6, h7⟩ := putF_getF 9 l f m (by omega) hg
      obtain ⟨hv, init, last, ep, hi, hl⟩ := putF_shape 9 f h3
      have hm : init.length = e := shape_end init last l e hi hl (by rw [← ep, ← h6]; exact List.take_prefix _ _) he h1 h2
      have hm2 : m = e + 1 := by rw [h7, ep]; simp [hm]
      subst hm2
      rw [pow9] at h3
      rw [h6, hv, Nat.mod_eq_of_lt h3] at h
      exact absurd rfl h
end Go.Proofs.YtnekpehgaojkaaaDoor.Marks
