/- A whole struct read out of a block in a region whose operations are guarded. -/
import Derived.Test.YtnekpehgaojkaaaDoorC11b
import Derived.Deep.MidRow
namespace Go.Proofs.YtnekpehgaojkaaaDoor
open Go.RowKit

theorem load_midG {P : Program} {ops : Array Oper} {rest : List Oper} {op : Oper} {a : Act} {w : World} {Q : Exit → Act → World → Prop} (hg : Region.wanted op (yielded ops a.tmps) = true) (ty : TypeId) (x : Operand) (ho : op.op = .load ty x)
    (b o : Nat) (hx : a.eval x = .pointer (some ⟨b, o, none⟩)) (cs : List Value) (d : TypeDesc) (hc : w.rangeAt b o cs)
    (hu : P.underlying ty = some d) (hd : d.isRow = true) (hi : (P.info? ty).map (·.size) = some cs.length)
    (h : wpList P ops Q rest (a.put op.dst (.agg cs.toArray)) w) : wpList P ops Q (op :: rest) a w := by
  unfold wpList
  rw [if_pos hg]
  exact .inl (wp_load_mid ty x ho b o hx cs d hc hu hd hi h)
/-- A message in a block: what a load of it wants. -/
theorem msg_range {w : World} {g : Nat} {m : MNum} {ve : Value} {t : TypeId} (h : w.heap[g]? = some (.cells (mailCells m ve) t (0, 0))) : w.rangeAt g 0 (mailCells m ve).toList := by
  generalize mailCells m ve = cs at *
  intro j v hv
  simp only [World.cell?, h]
  simpa using hv
theorem run_loadVar_one {P : Program} (w : World) (p : Addr) (ty : TypeId) (d : TypeDesc) (v : Value) (hc : w.cell? p = some v) (hu : P.underlying ty = some d) (hd : d.isRow = false) : (loadVar ty p).run P w = .ok v w := by
  have hagg : (isAgg ty).run P w = .ok false w := by
    unfold isAgg
    rw [Sem.run_bind, run_underlying hu w]
    cases d <;> simp_all
  simp [loadVar, Sem.run_bind, hagg, run_load, hc]
/-- One cell read, in a region whose operations are guarded. -/
theorem load_oneG {P : Program} {ops : Array Oper} {rest : List Oper} {op : Oper} {a : Act} {w : World} {Q : Exit → Act → World → Prop} (hg : Region.wanted op (yielded ops a.tmps) = true) (ty : TypeId) (x : Operand) (ho : op.op = .load ty x)
    (p : Addr) (hx : a.eval x = .pointer (some p)) (v : Value) (d : TypeDesc) (hc : w.cell? p = some v) (hu : P.underlying ty = some d) (hd : d.isRow = false)
    (h : wpList P ops Q rest (a.put op.dst v) w) : wpList P ops Q (op :: rest) a w := by
  unfold wpList
  rw [if_pos hg]
  refine .inl ?_
  unfold Oper.wp execOp
  simp only [ho, hx, Instr.loadAt, Instr.sureAddr, Sem.run_bind, Sem.run_pure, Result.andThen_ok, run_loadVar_one w p ty d v hc hu hd]
  exact h
/-- A field of a message in a block. -/
theorem msg_cell {w : World} {g : Nat} {m : MNum} {ve : Value} {t : TypeId} (h : w.heap[g]? = some (.cells (mailCells m ve) t (0, 0))) (o : Nat) (x : Value) (hx : (mailCells m ve)[o]? = some x) : w.cell? ⟨g, o, none⟩ = some x := by
  generalize mailCells m ve = cs at *
  simp only [World.cell?, h]
  simpa using hx
end Go.Proofs.YtnekpehgaojkaaaDoor
