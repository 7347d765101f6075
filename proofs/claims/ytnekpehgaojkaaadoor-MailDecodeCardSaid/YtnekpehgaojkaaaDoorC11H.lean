/- Helpers for the reference's May: the bits of a kind, its log. -/
import Derived.Test.YtnekpehgaojkaaaDoorC11B
namespace Go.Proofs.YtnekpehgaojkaaaDoor
open Go.RowKit

theorem bit_cell {w : World} {g : Nat} {cs : Array Value} {t : TypeId} (h : w.heap[g]? = some (.cells cs t (0, 0))) (o : Nat) (x : Value) (hx : cs[o]? = some x) : w.cell? ⟨g, o, none⟩ = some x := by
  simp only [World.cell?, h]
  simpa using hx
theorem bits_none (k : Int) : (!(bitsOf k).e && (!(bitsOf k).v && (!(bitsOf k).b && (!(bitsOf k).l && (!(bitsOf k).t && (!(bitsOf k).n && (!(bitsOf k).o && !(bitsOf k).a))))))) = !within k 1 10 := by
  cases h : within k 1 10 with
  | true =>
    have hk := within_iff.1 h
    have h10 : k = 1 ∨ k = 2 ∨ k = 3 ∨ k = 4 ∨ k = 5 ∨ k = 6 ∨ k = 7 ∨ k = 8 ∨ k = 9 ∨ k = 10 := by omega
    rcases h10 with rfl | rfl | rfl | rfl | rfl | rfl | rfl | rfl | rfl | rfl <;> rfl
  | false =>
    have hk : ¬ (1 ≤ k ∧ k ≤ 10) := fun hh => by rw [within_iff.2 hh] at h; cases h
    rw [bits_0 (by omega) (by omega) (by omega) (by omega) (by omega) (by omega) (by omega) (by omega) (by omega) (by omega)]
    rfl
set_option maxRecDepth 100000 in
theorem bits_equal (w : World) (be bv bb bl bt bn bo ba : Bool) : (Op.equalIn 10000 80 (.agg #[.bool be, .bool bv, .bool bb, .bool bl, .bool bt, .bool bn, .bool bo, .bool ba]) (.agg #[.bool false, .bool false, .bool false, .bool false, .bool false, .bool false, .bool false, .bool false])).run Tryd.prog w = .ok (!be && (!bv && (!bb && (!bl && (!bt && (!bn && (!bo && !ba))))))) w := by
  cases be
  · cases bv
    · cases bb
      · cases bl
        · cases bt
          · cases bn
            · cases bo
              · cases ba
                · kernel_rfl
                · kernel_rfl
              · kernel_rfl
            · kernel_rfl
          · kernel_rfl
        · kernel_rfl
      · kernel_rfl
    · kernel_rfl
  · kernel_rfl
theorem refLogM_any {B : Nat} {w : World} (m : MNum) (most : Int) {ae : Option Addr} {ce : Nat} {es : List Ent} (he : EntsAt B w (.slice ae es.length ce) es) (hl : es.length ≤ 1000000) :
    Calls Tryd.prog 46 #[.agg (mailCells m (.slice ae es.length ce)), .int .i64 most] w fun e w' => e = .returned (.bool (decide ((es.length : Int) ≤ most) && allGood m.stream es)) ∧ Below w.heap.size w w' := by
  obtain ⟨w1, e1, b1, s1, g1⟩ := boxed w (mailCells m (.slice ae es.length ce)) 28
  have E1 := Lib.hid e1
  have c9 := msg_cell g1 9 (.slice ae es.length ce) rfl
  have c3 := msg_cell g1 3 (.int .i64 m.stream) rfl
  have HL := Lib.hid (refLog_any m.stream most (he.below b1) hl)
  clear e1 g1 he
  go_enter Tryd.func46, Tryd.ntmps46
  go_upto_region 1 with fail
  (try rw [E1.out])
  go_wp2_with fail
  refine HL.out.mono ?_
  rintro e w2 ⟨rfl, b2⟩
  go_wp2
  go_ret
  exact ⟨rfl, b1.trans (b2.mono b1.size)⟩
end Go.Proofs.YtnekpehgaojkaaaDoor
