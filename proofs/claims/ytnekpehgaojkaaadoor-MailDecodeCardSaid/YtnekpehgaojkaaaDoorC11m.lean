/- SameMail. (Printed by wip/src/XC11m.py.) -/
import Derived.Test.YtnekpehgaojkaaaDoorC11b
import Derived.Test.YtnekpehgaojkaaaDoorC11z
namespace Go.Proofs.YtnekpehgaojkaaaDoor
open Go.RowKit

set_option maxRecDepth 100000 in
set_option maxHeartbeats 4000000 in
theorem sameMail_any {B B' : Nat} {w : World} (m : MNum) {ae ae2 : Option Addr} {ce ce2 : Nat} {es : List Ent} (he : EntsAt B w (.slice ae es.length ce) es) (he2 : EntsAt B' w (.slice ae2 es.length ce2) es) (hl : es.length ≤ 1000000) :
    Calls Tryd.prog 13 #[.agg #[.int .i64 m.kind, .int .i64 m.frm, .int .i64 m.dst, .int .i64 m.stream, .int .i64 m.epoch, .int .i64 m.view, .int .i64 m.base, .int .i64 m.length, .int .i64 m.stamp, .slice ae es.length ce, .int .i64 m.ord.id, .int .i64 m.ord.stream, .int .i64 m.ord.expect, .int .i64 m.ord.kind, .int .i64 m.ord.arg, .int .i64 m.ans.id, .int .i64 m.ans.code, .int .i64 m.ans.ver], .agg #[.int .i64 m.kind, .int .i64 m.frm, .int .i64 m.dst, .int .i64 m.stream, .int .i64 m.epoch, .int .i64 m.view, .int .i64 m.base, .int .i64 m.length, .int .i64 m.stamp, .slice ae2 es.length ce2, .int .i64 m.ord.id, .int .i64 m.ord.stream, .int .i64 m.ord.expect, .int .i64 m.ord.kind, .int .i64 m.ord.arg, .int .i64 m.ans.id, .int .i64 m.ans.code, .int .i64 m.ans.ver]] w fun e w' => e = .returned (.bool true) ∧ Below w.heap.size w w' := by
  obtain ⟨w1, e1, b1, s1, g1⟩ := boxed w (mailCells m (.slice ae es.length ce)) 28
  obtain ⟨w2, e2, b2, s2, g2⟩ := boxed w1 (mailCells m (.slice ae2 es.length ce2)) 28
  have E2 := Lib.hid (show (w.alloc (.cells #[.int .i64 m.kind, .int .i64 m.frm, .int .i64 m.dst, .int .i64 m.stream, .int .i64 m.epoch, .int .i64 m.view, .int .i64 m.base, .int .i64 m.length, .int .i64 m.stamp, .slice ae es.length ce, .int .i64 m.ord.id, .int .i64 m.ord.stream, .int .i64 m.ord.expect, .int .i64 m.ord.kind, .int .i64 m.ord.arg, .int .i64 m.ans.id, .int .i64 m.ans.code, .int .i64 m.ans.ver] 28)).alloc (.cells #[.int .i64 m.kind, .int .i64 m.frm, .int .i64 m.dst, .int .i64 m.stream, .int .i64 m.epoch, .int .i64 m.view, .int .i64 m.base, .int .i64 m.length, .int .i64 m.stamp, .slice ae2 es.length ce2, .int .i64 m.ord.id, .int .i64 m.ord.stream, .int .i64 m.ord.expect, .int .i64 m.ord.kind, .int .i64 m.ord.arg, .int .i64 m.ans.id, .int .i64 m.ans.code, .int .i64 m.ans.ver] 28) = w2 by rw [← e2, ← e1]; rfl)
  rw [s1] at g2
  have b12 := b1.trans (b2.mono b1.size)
  have R1 := Lib.hid (mail_cells ((b2.block w.heap.size (by omega)).trans g1))
  have R2 := Lib.hid (mail_cells g2)
  have HX := Lib.hid (sameEnts_any (he.below b12) (he2.below b12) hl)
  clear e1 e2 g1 g2 he he2
  obtain ⟨c0, c1, c2, c3, c4, c5, c6, c7, c8, c9, c10, c11, c12, c13, c14, c15, c16, c17⟩ := R1.out
  obtain ⟨d0, d1, d2, d3, d4, d5, d6, d7, d8, d9, d10, d11, d12, d13, d14, d15, d16, d17⟩ := R2.out
  go_enter Tryd.func13, Tryd.ntmps13
  go_wp2_with fail
  rw [E2.out]
  refine HX.out.mono ?_
  rintro e w3 ⟨rfl, b3⟩
  clear c0 c1 c2 c3 c4 c5 c6 c7 c8 c9 c10 c11 c12 c13 c14 c15 c16 c17 d0 d1 d2 d3 d4 d5 d6 d7 d8 d9 d10 d11 d12 d13 d14 d15 d16 d17
  have b13 := b12.trans (b3.mono (by omega))
  obtain ⟨c0, c1, c2, c3, c4, c5, c6, c7, c8, c9, c10, c11, c12, c13, c14, c15, c16, c17⟩ := R1.out.below (by omega) (b3.mono (Nat.le_refl _))
  obtain ⟨d0, d1, d2, d3, d4, d5, d6, d7, d8, d9, d10, d11, d12, d13, d14, d15, d16, d17⟩ := R2.out.below (by omega) (b3.mono (Nat.le_refl _))
  go_wp2
  go_ret
  exact ⟨rfl, b13⟩
end Go.Proofs.YtnekpehgaojkaaaDoor
