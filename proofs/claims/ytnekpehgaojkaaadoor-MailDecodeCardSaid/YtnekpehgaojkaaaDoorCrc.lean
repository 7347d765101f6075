/- The check number's register on bit vectors: how it goes on, how it goes back, that both are one to one and linear. Plain, without the program. -/
namespace Go.Proofs.YtnekpehgaojkaaaDoor.Crc

abbrev Reg := BitVec 32
def poly : Reg := 2197175160#32
def step (r : Reg) : Reg := (r >>> 1) ^^^ (if r.getLsbD 0 then poly else 0#32)
def unstep (r : Reg) : Reg := if r.msb then ((r ^^^ poly) <<< 1) ||| 1#32 else r <<< 1
def steps : Nat → Reg → Reg
  | 0, r => r
  | n + 1, r => steps n (step r)
def unsteps : Nat → Reg → Reg
  | 0, r => r
  | n + 1, r => unsteps n (unstep r)
def wide (b : UInt8) : Reg := BitVec.ofNat 32 b.toNat
def on (r : Reg) (b : UInt8) : Reg := steps 8 (r ^^^ wide b)
def off (r : Reg) (b : UInt8) : Reg := unsteps 8 r ^^^ wide b
def fwd (r : Reg) (l : List UInt8) : Reg := l.foldl on r
def bwd (r : Reg) (l : List UInt8) : Reg := l.foldr (fun b r => off r b) r
def more (r : Reg) (l : List UInt8) : Reg := ~~~(fwd (~~~r) l)
def less (r : Reg) (l : List UInt8) : Reg := ~~~(bwd (~~~r) l)
def sum (l : List UInt8) : Reg := more 0#32 l

theorem xor_not (a b : Reg) : ~~~a ^^^ ~~~b = a ^^^ b := by
  ext i hi; simp

theorem step_zero : step 0#32 = 0#32 := by decide

theorem step_xor (r s : Reg) : step (r ^^^ s) = step r ^^^ step s := by
  unfold step
  rw [BitVec.ushiftRight_xor_distrib, BitVec.getLsbD_xor]
  cases r.getLsbD 0 <;> cases s.getLsbD 0 <;> simp
  · ac_rfl
  · ac_rfl
  · have : r >>> 1 ^^^ poly ^^^ (s >>> 1 ^^^ poly) = (r >>> 1 ^^^ s >>> 1) ^^^ (poly ^^^ poly) := by ac_rfl
    rw [this]; simp

theorem steps_xor (n : Nat) (r s : Reg) : steps n (r ^^^ s) = steps n r ^^^ steps n s := by
  induction n generalizing r s with
  | zero => rfl
  | succ n ih => simp only [steps]; rw [step_xor, ih]

theorem steps_zero (n : Nat) : steps n 0#32 = 0#32 := by
  induction n with
  | zero => rfl
  | succ n ih => simp only [steps]; rw [step_zero, ih]

theorem steps_succ' (n : Nat) (r : Reg) : steps (n + 1) r = step (steps n r) := by
  induction n generalizing r with
  | zero => rfl
  | succ n ih => rw [steps, ih, steps]

theorem steps_add (m n : Nat) (r : Reg) : steps (m + n) r = steps n (steps m r) := by
  induction m generalizing r with
  | zero => simp [steps]
  | succ m ih => rw [Nat.succ_add, steps, ih, steps]

theorem unsteps_succ' (n : Nat) (r : Reg) : unsteps (n + 1) r = unstep (unsteps n r) := by
  induction n generalizing r with
  | zero => rfl
  | succ n ih => rw [unsteps, ih, unsteps]

theorem poly_msb : poly.msb = true := by decide

theorem msb_shr (r : Reg) : (r >>> 1).msb = false := by
  simp [BitVec.msb_eq_getLsbD_last]

theorem shl_shr (r : Reg) : (r >>> 1) <<< 1 = if r.getLsbD 0 then r ^^^ 1#32 else r := by
  ext i hi
  by_cases h0 : i = 0
  · subst h0
    cases h : r[0] <;> simp [BitVec.getLsbD] <;> simp_all [BitVec.getElem_eq_testBit_toNat]
  · have h1 : ¬ i < 1 := by omega
    have h2 : 1 + (i - 1) = i := by omega
    cases h : r.getLsbD 0 <;> simp [h1, h2, h0, ← BitVec.getLsbD_eq_getElem, hi]

theorem unstep_step (r : Reg) : unstep (step r) = r := by
  unfold unstep step
  cases h : r.getLsbD 0
  · have h1 := msb_shr r
    have h2 := shl_shr r
    simp only [h, Bool.false_eq_true, if_false] at h2
    simp [h1, h2]
  · have h1 := msb_shr r
    have h2 := shl_shr r
    simp only [h, if_true] at h2
    have h3 : r >>> 1 ^^^ poly ^^^ poly = r >>> 1 := by rw [BitVec.xor_assoc]; simp
    have h4 : (r >>> 1 ^^^ poly).msb = true := by rw [BitVec.msb_xor, h1, poly_msb]; rfl
    simp only [if_true, h4, h3, h2]
    ext i hi
    by_cases h0 : i = 0
    · subst h0
      have : r[0] = true := by rw [← h]; simp [BitVec.getLsbD_eq_getElem]
      simp [this]
    · simp [BitVec.getElem_one, h0]

theorem shr_shl (r : Reg) (h : r.msb = false) : (r <<< 1) >>> 1 = r := by
  ext i hi
  by_cases h0 : i = 31
  · subst h0
    have : r[31] = false := by
      rw [← h, BitVec.msb_eq_getLsbD_last]; simp [BitVec.getLsbD_eq_getElem]
    simp [this]
  · have h1 : 1 + i < 32 := by omega
    have h2 : 1 + i - 1 = i := by omega
    simp [h1, h2, BitVec.getLsbD_eq_getElem]

theorem shr_shl_or (r : Reg) (h : r.msb = false) : ((r <<< 1) ||| 1#32) >>> 1 = r := by
  rw [BitVec.ushiftRight_or_distrib, shr_shl r h]
  have : (1#32 >>> 1) = 0#32 := by decide
  rw [this]; simp

theorem step_unstep (r : Reg) : step (unstep r) = r := by
  unfold step unstep
  cases h : r.msb
  · have h1 : (r <<< 1).getLsbD 0 = false := by simp
    simp only [Bool.false_eq_true, if_false, h1, shr_shl r h]
    simp
  · have h1 : (((r ^^^ poly) <<< 1) ||| 1#32).getLsbD 0 = true := by simp
    have h2 : (r ^^^ poly).msb = false := by rw [BitVec.msb_xor, h, poly_msb]; rfl
    simp only [if_true, h1, shr_shl_or _ h2]
    rw [BitVec.xor_assoc]; simp

theorem unsteps_steps (n : Nat) (r : Reg) : unsteps n (steps n r) = r := by
  induction n generalizing r with
  | zero => rfl
  | succ n ih => rw [steps_succ', unsteps, unstep_step, ih]

theorem steps_unsteps (n : Nat) (r : Reg) : steps n (unsteps n r) = r := by
  induction n generalizing r with
  | zero => rfl
  | succ n ih => rw [unsteps_succ', steps, step_unstep, ih]

theorem steps_inj {n : Nat} {r s : Reg} (h : steps n r = steps n s) : r = s := by
  rw [← unsteps_steps n r, h, unsteps_steps]

theorem off_on (r : Reg) (b : UInt8) : off (on r b) b = r := by
  unfold off on
  rw [unsteps_steps, BitVec.xor_assoc]; simp

theorem on_off (r : Reg) (b : UInt8) : on (off r b) b = r := by
  unfold off on
  rw [BitVec.xor_assoc]; simp [steps_unsteps]

theorem fwd_append (r : Reg) (a b : List UInt8) : fwd r (a ++ b) = fwd (fwd r a) b := by
  unfold fwd; rw [List.foldl_append]

theorem bwd_append (r : Reg) (a b : List UInt8) : bwd r (a ++ b) = bwd (bwd r b) a := by
  unfold bwd; rw [List.foldr_append]

theorem bwd_fwd (r : Reg) (l : List UInt8) : bwd (fwd r l) l = r := by
  induction l generalizing r with
  | nil => rfl
  | cons b l ih => show off (bwd (fwd (on r b) l) l) b = r; rw [ih, off_on]

theorem fwd_bwd (r : Reg) (l : List UInt8) : fwd (bwd r l) l = r := by
  induction l generalizing r with
  | nil => rfl
  | cons b l ih => show fwd (on (off (bwd r l) b) b) l = r; rw [on_off, ih]

theorem less_more (r : Reg) (l : List UInt8) : less (more r l) l = r := by
  unfold less more; rw [BitVec.not_not, bwd_fwd, BitVec.not_not]

theorem more_less (r : Reg) (l : List UInt8) : more (less r l) l = r := by
  unfold less more; rw [BitVec.not_not, fwd_bwd, BitVec.not_not]

theorem more_append (r : Reg) (a b : List UInt8) : more r (a ++ b) = more (more r a) b := by
  unfold more; rw [BitVec.not_not, fwd_append]

theorem less_append (r : Reg) (a b : List UInt8) : less r (a ++ b) = less (less r b) a := by
  unfold less; rw [BitVec.not_not, bwd_append]

theorem more_nil (r : Reg) : more r [] = r := by
  unfold more fwd; simp

theorem less_nil (r : Reg) : less r [] = r := by
  unfold less bwd; simp

theorem more_inj {r s : Reg} {l : List UInt8} (h : more r l = more s l) : r = s := by
  rw [← less_more r l, h, less_more]

theorem less_inj {r s : Reg} {l : List UInt8} (h : less r l = less s l) : r = s := by
  rw [← more_less r l, h, more_less]

/-! Two texts of one length. -/

theorem on_xor (r s : Reg) (a b : UInt8) : on r a ^^^ on s b = steps 8 ((r ^^^ s) ^^^ (wide a ^^^ wide b)) := by
  unfold on
  rw [← steps_xor]
  congr 1
  ac_rfl

/-- How far two texts' registers are apart hangs on how far the beginnings are apart, and on both texts alone. -/
def apart (d : Reg) : List UInt8 → List UInt8 → Reg
  | a :: l, b :: m => apart (steps 8 (d ^^^ (wide a ^^^ wide b))) l m
  | _, _ => d

theorem fwd_apart (a b : List UInt8) (h : a.length = b.length) (r s : Reg) : fwd r a ^^^ fwd s b = apart (r ^^^ s) a b := by
  induction a generalizing b r s with
  | nil =>
    cases b with
    | nil => rfl
    | cons y b => simp at h
  | cons x a ih =>
    cases b with
    | nil => simp at h
    | cons y b =>
      show fwd (on r x) a ^^^ fwd (on s y) b = apart (steps 8 ((r ^^^ s) ^^^ (wide x ^^^ wide y))) a b
      rw [ih b (by simpa using h), on_xor]

theorem more_apart (a b : List UInt8) (h : a.length = b.length) (r s : Reg) : more r a ^^^ more s b = apart (r ^^^ s) a b := by
  unfold more; rw [xor_not, fwd_apart a b h, xor_not]

theorem sum_apart (a b : List UInt8) (h : a.length = b.length) (r : Reg) : more r a ^^^ more r b = sum a ^^^ sum b := by
  unfold sum; rw [more_apart a b h, more_apart a b h]; simp

theorem sum_append (a b : List UInt8) : sum (a ++ b) = more (sum a) b := more_append _ _ _

theorem xor_eq_zero {r s : Reg} : r ^^^ s = 0#32 ↔ r = s := by
  constructor
  · intro h
    have : r ^^^ s ^^^ s = 0#32 ^^^ s := by rw [h]
    rw [BitVec.xor_assoc] at this; simpa using this
  · rintro rfl; simp

/-! One bit of a text turned over. -/

theorem steps_one : ∀ i : Fin 32, steps i.val (BitVec.twoPow 32 i.val) = 1#32 := by decide +kernel

theorem steps_bit (n i : Nat) (hi : i < 32) (hn : i ≤ n) : steps (n - i) 1#32 = steps n (BitVec.twoPow 32 i) := by
  have h := steps_one ⟨i, hi⟩
  have e : n = i + (n - i) := by omega
  rw [← h]
  conv => rhs; rw [e, steps_add]

theorem wide_xor (a b : UInt8) : wide (a ^^^ b) = wide a ^^^ wide b := by
  unfold wide
  apply BitVec.eq_of_toNat_eq
  have ha := a.toNat_lt
  have hb := b.toNat_lt
  have hx : a.toNat ^^^ b.toNat < 2 ^ 8 := Nat.xor_lt_two_pow (by omega) (by omega)
  rw [BitVec.toNat_xor, BitVec.toNat_ofNat, BitVec.toNat_ofNat, BitVec.toNat_ofNat, UInt8.toNat_xor, Nat.mod_eq_of_lt (by omega), Nat.mod_eq_of_lt (by omega), Nat.mod_eq_of_lt (by omega)]

theorem fwd_set (l : List UInt8) (r : Reg) (j : Nat) (hj : j < l.length) (x : UInt8) :
    fwd r (l.set j (l[j] ^^^ x)) = fwd r l ^^^ steps (8 * (l.length - j)) (wide x) := by
  induction l generalizing r j with
  | nil => simp at hj
  | cons y l ih =>
    cases j with
    | zero =>
      show fwd (on r (y ^^^ x)) l = fwd (on r y) l ^^^ steps (8 * (l.length + 1)) (wide x)
      have e : on r (y ^^^ x) = on r y ^^^ steps 8 (wide x) := by
        unfold on; rw [← steps_xor, wide_xor]; congr 1; ac_rfl
      have e2 : 8 * (l.length + 1) = 8 + 8 * l.length := by omega
      rw [e, e2, steps_add]
      generalize steps 8 (wide x) = d
      generalize on r y = s
      clear e e2 ih hj
      induction l generalizing s d with
      | nil => rfl
      | cons z l ih =>
        show fwd (on (s ^^^ d) z) l = fwd (on s z) l ^^^ steps (8 * (l.length + 1)) d
        have e : on (s ^^^ d) z = on s z ^^^ steps 8 d := by
          unfold on; rw [← steps_xor]; congr 1; ac_rfl
        have e2 : 8 * (l.length + 1) = 8 + 8 * l.length := by omega
        rw [e, e2, steps_add, ih]
    | succ j =>
      have hj' : j < l.length := by simpa using hj
      show fwd (on r y) (l.set j (l[j] ^^^ x)) = fwd (on r y) l ^^^ steps (8 * (l.length + 1 - (j + 1))) (wide x)
      rw [ih _ j hj']; congr 3; omega

/-- Of a number its lowest bits. -/
def low (r : Reg) (i : Nat) : Reg := BitVec.ofNat 32 (r.toNat % 2 ^ i)

theorem low_zero (r : Reg) : low r 0 = 0#32 := by unfold low; simp [Nat.mod_one]

theorem low_all (r : Reg) : low r 32 = r := by
  unfold low; rw [Nat.mod_eq_of_lt r.isLt]; simp

theorem low_succ (r : Reg) (i : Nat) (hi : i < 32) : low r (i + 1) = low r i ^^^ (if r.getLsbD i then BitVec.twoPow 32 i else 0#32) := by
  apply BitVec.eq_of_getLsbD_eq
  intro j hj
  unfold low
  rw [BitVec.getLsbD_xor]
  simp only [BitVec.getLsbD_ofNat, Nat.testBit_mod_two_pow, hj, decide_true, Bool.true_and]
  by_cases h : j = i
  · subst h
    cases hb : r.getLsbD j
    · simp [BitVec.getLsbD] at hb ⊢; simp [hb]
    · rw [if_pos rfl, BitVec.getLsbD_twoPow]
      simp [BitVec.getLsbD] at hb ⊢; simp [hb, hj]
  · have e : decide (j < i + 1) = decide (j < i) := by congr 1; apply propext; omega
    rw [e]
    cases r.getLsbD i
    · simp
    · simp [BitVec.getLsbD_twoPow, Ne.symm h]

theorem wide_bit (b : Bool) (m : Nat) (x : UInt8) (hx : x.toNat = if b then 2 ^ m else 0) : wide x = if b then BitVec.twoPow 32 m else 0#32 := by
  unfold wide
  rw [hx]
  cases b
  · rfl
  · simp only [if_true]
    apply BitVec.eq_of_toNat_eq
    rw [BitVec.toNat_ofNat, BitVec.toNat_twoPow]

/-- One round of turning: the bit i of 'bits' is put on the text's bit k + i. -/
theorem turn_round (l s : List UInt8) (r bits : Reg) (k i : Nat) (hi : i < 32) (hk : k + 31 < 8 * s.length) (hl : l.length = s.length) (x : UInt8)
    (hx : x.toNat = if bits.getLsbD i then 2 ^ ((k + i) % 8) else 0)
    (h : fwd r l = fwd r s ^^^ steps (8 * s.length - k) (low bits i)) (hj : (k + i) / 8 < l.length) :
    fwd r (l.set ((k + i) / 8) (l[(k + i) / 8] ^^^ x)) = fwd r s ^^^ steps (8 * s.length - k) (low bits (i + 1)) := by
  rw [fwd_set, h, wide_bit _ _ x hx, low_succ _ _ hi, steps_xor, ← BitVec.xor_assoc]
  congr 1
  cases bits.getLsbD i
  · simp [steps_zero]
  · simp only [if_true]
    rw [← steps_bit _ _ (by omega) (by omega), ← steps_bit _ _ hi (by omega)]
    congr 1; omega

theorem turned (l s : List UInt8) (r bits : Reg) (k : Nat) (h : fwd r l = fwd r s ^^^ steps (8 * s.length - k) (low bits 32)) : fwd r l = fwd r s ↔ bits = 0#32 := by
  rw [low_all] at h
  constructor
  · intro e
    rw [e] at h
    have h2 : fwd r s ^^^ fwd r s = fwd r s ^^^ (fwd r s ^^^ steps (8 * s.length - k) bits) := by rw [← h]
    rw [← BitVec.xor_assoc] at h2
    simp only [BitVec.xor_self, BitVec.zero_xor] at h2
    exact steps_inj (n := 8 * s.length - k) (by rw [steps_zero, ← h2])
  · rintro rfl
    rw [h, steps_zero]; simp

theorem sum_eq_iff (l s : List UInt8) : sum l = sum s ↔ fwd (~~~0#32) l = fwd (~~~0#32) s := by
  unfold sum more
  constructor
  · intro h
    have := congrArg (fun x => ~~~x) h
    simpa using this
  · intro h; rw [h]

end Go.Proofs.YtnekpehgaojkaaaDoor.Crc
