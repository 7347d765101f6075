/-
  No cell of these rows narrows 'for every input' (looked for: loops, veiled, ifaces, maps, wideKeys, modest, calm, conditions, laid).
  DERIVED. THE GIVEN ROWS OF THIS SEAT. 6 by the template 'for every input the law returns true; each argument reads behind the call as it read before'; 0 by the template 'total and deterministic' (their statements: YtalilifegclelaaTotals.lean).
  GIVEN WITH THE SEED: the statements are not yours to turn. If you find one false, say at which input.
  Laid BY PROGRAM, IN A SANDBOX (cutbox-rows.mjs): the forced cells as the released guide's own fill.sh prints them over the translation 1a928ab8ad008788… (all of the seat's roots in one cut). By AI agents, Wed Nov 11 2026. No macro, syntax, notation, axiom, sorry.
-/
import Derived.Test.YtalilifegclelaaChecked
import GoSem.Claim
import GoSem.ClaimJoined
import GoSem.ClaimMapViews
import Derived.JoinedTies
import Derived.KernelRfl
namespace Go.Proofs.Ytalilifegclelaa
/- THE CELL 'sum', in the pinned program and in every row, IS THE sha256 OF THE DUMP (.gsa) THAT YtalilifegclelaaProg.lean LOADS. Nothing in Lean hashes anything: it is a label: what it is worth is what the hold of that sum in a sandbox is worth. -/
noncomputable def Try.pinned : Pinned := { name := "ytalilifegclelaa", sum := "1a928ab8ad0087883a13d7e5fcd6c72f367e2e6eaa9d072cd35a078a630ddbbd", checked := Try.checked }
namespace Rows
def none {H : Type} : Left H := { results := [], args := [] }

/-- 'archipelagolaw10.RecordsEncode': WHATEVER THE INPUT: true; the input reads as it did. -/
def recordsEncodeSpec : ChangeSpec := { name := "recordsEncode", fn := fun _ => fun
  | [d] => { results := [.lit (.bool true)], args := [d] }
  | _ => none }
def recordsEncodeRow : OpenClaim := { program := "ytalilifegclelaa", sum := "1a928ab8ad0087883a13d7e5fcd6c72f367e2e6eaa9d072cd35a078a630ddbbd", func := "archipelago/archipelagolaw10.RecordsEncode", spec := "recordsEncode", unfollowed := true, recurses := true, apart := false }
def RecordsEncodeSaid : Prop := recordsEncodeRow.holds Try.pinned (OpenSpec.ofChange recordsEncodeSpec)

/-- ITS FALSE NEIGHBOUR: 'it returns false'. Refute it at one input. -/
def recordsEncodeWrong : ChangeSpec := { name := "recordsEncode", fn := fun _ => fun
  | [d] => { results := [.lit (.bool false)], args := [d] }
  | _ => none }
def RecordsEncodeWrongFalsely : Prop := recordsEncodeRow.holds Try.pinned (OpenSpec.ofChange recordsEncodeWrong)

/-- 'archipelagolaw10.RecordsDecode': WHATEVER THE INPUT: true; the input reads as it did. -/
def recordsDecodeSpec : ChangeSpec := { name := "recordsDecode", fn := fun _ => fun
  | [d] => { results := [.lit (.bool true)], args := [d] }
  | _ => none }
def recordsDecodeRow : OpenClaim := { program := "ytalilifegclelaa", sum := "1a928ab8ad0087883a13d7e5fcd6c72f367e2e6eaa9d072cd35a078a630ddbbd", func := "archipelago/archipelagolaw10.RecordsDecode", spec := "recordsDecode", unfollowed := true, recurses := true, apart := false }
def RecordsDecodeSaid : Prop := recordsDecodeRow.holds Try.pinned (OpenSpec.ofChange recordsDecodeSpec)

/-- ITS FALSE NEIGHBOUR: 'it returns false'. Refute it at one input. -/
def recordsDecodeWrong : ChangeSpec := { name := "recordsDecode", fn := fun _ => fun
  | [d] => { results := [.lit (.bool false)], args := [d] }
  | _ => none }
def RecordsDecodeWrongFalsely : Prop := recordsDecodeRow.holds Try.pinned (OpenSpec.ofChange recordsDecodeWrong)

/-- 'archipelagolaw10.RecordsBack': WHATEVER THE INPUT: true; the input reads as it did. -/
def recordsBackSpec : ChangeSpec := { name := "recordsBack", fn := fun _ => fun
  | [d1, d2] => { results := [.lit (.bool true)], args := [d1, d2] }
  | _ => none }
def recordsBackRow : OpenClaim := { program := "ytalilifegclelaa", sum := "1a928ab8ad0087883a13d7e5fcd6c72f367e2e6eaa9d072cd35a078a630ddbbd", func := "archipelago/archipelagolaw10.RecordsBack", spec := "recordsBack", unfollowed := true, recurses := true, apart := false }
def RecordsBackSaid : Prop := recordsBackRow.holds Try.pinned (OpenSpec.ofChange recordsBackSpec)

/-- ITS FALSE NEIGHBOUR: 'it returns false'. Refute it at one input. -/
def recordsBackWrong : ChangeSpec := { name := "recordsBack", fn := fun _ => fun
  | [d1, d2] => { results := [.lit (.bool false)], args := [d1, d2] }
  | _ => none }
def RecordsBackWrongFalsely : Prop := recordsBackRow.holds Try.pinned (OpenSpec.ofChange recordsBackWrong)

/-- 'archipelagolaw10.RecordsBare': WHATEVER THE INPUT: true; the input reads as it did. -/
def recordsBareSpec : ChangeSpec := { name := "recordsBare", fn := fun _ => fun
  | [d1, d2, d3] => { results := [.lit (.bool true)], args := [d1, d2, d3] }
  | _ => none }
def recordsBareRow : OpenClaim := { program := "ytalilifegclelaa", sum := "1a928ab8ad0087883a13d7e5fcd6c72f367e2e6eaa9d072cd35a078a630ddbbd", func := "archipelago/archipelagolaw10.RecordsBare", spec := "recordsBare", unfollowed := true, recurses := true, apart := false }
def RecordsBareSaid : Prop := recordsBareRow.holds Try.pinned (OpenSpec.ofChange recordsBareSpec)

/-- ITS FALSE NEIGHBOUR: 'it returns false'. Refute it at one input. -/
def recordsBareWrong : ChangeSpec := { name := "recordsBare", fn := fun _ => fun
  | [d1, d2, d3] => { results := [.lit (.bool false)], args := [d1, d2, d3] }
  | _ => none }
def RecordsBareWrongFalsely : Prop := recordsBareRow.holds Try.pinned (OpenSpec.ofChange recordsBareWrong)

/-- 'archipelagolaw10.RecordsLog': WHATEVER THE INPUT: true; the input reads as it did. -/
def recordsLogSpec : ChangeSpec := { name := "recordsLog", fn := fun _ => fun
  | [d1, d2, d3] => { results := [.lit (.bool true)], args := [d1, d2, d3] }
  | _ => none }
def recordsLogRow : OpenClaim := { program := "ytalilifegclelaa", sum := "1a928ab8ad0087883a13d7e5fcd6c72f367e2e6eaa9d072cd35a078a630ddbbd", func := "archipelago/archipelagolaw10.RecordsLog", spec := "recordsLog", unfollowed := true, recurses := true, apart := false }
def RecordsLogSaid : Prop := recordsLogRow.holds Try.pinned (OpenSpec.ofChange recordsLogSpec)

/-- ITS FALSE NEIGHBOUR: 'it returns false'. Refute it at one input. -/
def recordsLogWrong : ChangeSpec := { name := "recordsLog", fn := fun _ => fun
  | [d1, d2, d3] => { results := [.lit (.bool false)], args := [d1, d2, d3] }
  | _ => none }
def RecordsLogWrongFalsely : Prop := recordsLogRow.holds Try.pinned (OpenSpec.ofChange recordsLogWrong)

/-- 'archipelagolaw10.RecordsFit': WHATEVER THE INPUT: true; the input reads as it did. -/
def recordsFitSpec : ChangeSpec := { name := "recordsFit", fn := fun _ => fun
  | [d] => { results := [.lit (.bool true)], args := [d] }
  | _ => none }
def recordsFitRow : OpenClaim := { program := "ytalilifegclelaa", sum := "1a928ab8ad0087883a13d7e5fcd6c72f367e2e6eaa9d072cd35a078a630ddbbd", func := "archipelago/archipelagolaw10.RecordsFit", spec := "recordsFit", unfollowed := true, recurses := true, apart := false }
def RecordsFitSaid : Prop := recordsFitRow.holds Try.pinned (OpenSpec.ofChange recordsFitSpec)

/-- ITS FALSE NEIGHBOUR: 'it returns false'. Refute it at one input. -/
def recordsFitWrong : ChangeSpec := { name := "recordsFit", fn := fun _ => fun
  | [d] => { results := [.lit (.bool false)], args := [d] }
  | _ => none }
def RecordsFitWrongFalsely : Prop := recordsFitRow.holds Try.pinned (OpenSpec.ofChange recordsFitWrong)

/- THE SECOND FORM. 'bulk': how many values and letters a reading holds, each counted each time it is reached (what is shared counts as often as it is met; a slice's spare places count too). A statement '..UptoSaid' is the law's where the arguments, and the package variables that the reading takes, are together of bulk at most 1048576: NARROWER than '..Said'. Prove '..Said' where nothing that the law and all that it calls make is longer than what came in: it says more and counts as full. Else prove '..UptoSaid'. A law counts once. -/
mutual
def uptoBulk {H : Type} : DataW H → Nat
  | .lit (.string bytes) => bytes.length + 1
  | .lit _ => 1
  | .nil => 1
  | .ptr d => uptoBulk d + 1
  | .slice elems spare => uptoBulkAll elems + uptoBulkAll spare + 1
  | .agg parts => uptoBulkAll parts + 1
  | .iface _ d => uptoBulk d + 1
  | .map entries => uptoBulkEntries entries + 1
  | .held _ => 1
def uptoBulkAll {H : Type} : List (DataW H) → Nat
  | [] => 0
  | d :: r => uptoBulk d + uptoBulkAll r
def uptoBulkEntries {H : Type} : List (Lit × DataW H) → Nat
  | [] => 0
  | x :: r => uptoBulkEntry x + uptoBulkEntries r
def uptoBulkEntry {H : Type} : Lit × DataW H → Nat
  | (.string bytes, d) => bytes.length + uptoBulk d + 1
  | (_, d) => uptoBulk d + 1
 end
def uptoSmall : (H : Type) → List (DataW H) → Bool := fun _ ds => decide (uptoBulkAll ds ≤ 1048576)
def OpenSpec.upto (s : _root_.Go.ChangeSpec) : _root_.Go.OpenSpec := { _root_.Go.OpenSpec.ofChange s with cond := some uptoSmall }

/-- 'archipelagolaw10.RecordsEncode', WHERE WHAT IT READS IS OF BULK AT MOST 1048576: true; the input reads as it did. -/
def recordsEncodeUptoRow : OpenClaim := { program := "ytalilifegclelaa", sum := "1a928ab8ad0087883a13d7e5fcd6c72f367e2e6eaa9d072cd35a078a630ddbbd", func := "archipelago/archipelagolaw10.RecordsEncode", spec := "recordsEncode", unfollowed := true, recurses := true, apart := false, narrowed := true }
def RecordsEncodeUptoSaid : Prop := recordsEncodeUptoRow.holds Try.pinned (OpenSpec.upto recordsEncodeSpec)

/-- 'archipelagolaw10.RecordsDecode', WHERE WHAT IT READS IS OF BULK AT MOST 1048576: true; the input reads as it did. -/
def recordsDecodeUptoRow : OpenClaim := { program := "ytalilifegclelaa", sum := "1a928ab8ad0087883a13d7e5fcd6c72f367e2e6eaa9d072cd35a078a630ddbbd", func := "archipelago/archipelagolaw10.RecordsDecode", spec := "recordsDecode", unfollowed := true, recurses := true, apart := false, narrowed := true }
def RecordsDecodeUptoSaid : Prop := recordsDecodeUptoRow.holds Try.pinned (OpenSpec.upto recordsDecodeSpec)

/-- 'archipelagolaw10.RecordsBack', WHERE WHAT IT READS IS OF BULK AT MOST 1048576: true; the input reads as it did. -/
def recordsBackUptoRow : OpenClaim := { program := "ytalilifegclelaa", sum := "1a928ab8ad0087883a13d7e5fcd6c72f367e2e6eaa9d072cd35a078a630ddbbd", func := "archipelago/archipelagolaw10.RecordsBack", spec := "recordsBack", unfollowed := true, recurses := true, apart := false, narrowed := true }
def RecordsBackUptoSaid : Prop := recordsBackUptoRow.holds Try.pinned (OpenSpec.upto recordsBackSpec)

/-- 'archipelagolaw10.RecordsBare', WHERE WHAT IT READS IS OF BULK AT MOST 1048576: true; the input reads as it did. -/
def recordsBareUptoRow : OpenClaim := { program := "ytalilifegclelaa", sum := "1a928ab8ad0087883a13d7e5fcd6c72f367e2e6eaa9d072cd35a078a630ddbbd", func := "archipelago/archipelagolaw10.RecordsBare", spec := "recordsBare", unfollowed := true, recurses := true, apart := false, narrowed := true }
def RecordsBareUptoSaid : Prop := recordsBareUptoRow.holds Try.pinned (OpenSpec.upto recordsBareSpec)

/-- 'archipelagolaw10.RecordsLog', WHERE WHAT IT READS IS OF BULK AT MOST 1048576: true; the input reads as it did. -/
def recordsLogUptoRow : OpenClaim := { program := "ytalilifegclelaa", sum := "1a928ab8ad0087883a13d7e5fcd6c72f367e2e6eaa9d072cd35a078a630ddbbd", func := "archipelago/archipelagolaw10.RecordsLog", spec := "recordsLog", unfollowed := true, recurses := true, apart := false, narrowed := true }
def RecordsLogUptoSaid : Prop := recordsLogUptoRow.holds Try.pinned (OpenSpec.upto recordsLogSpec)

/-- 'archipelagolaw10.RecordsFit', WHERE WHAT IT READS IS OF BULK AT MOST 1048576: true; the input reads as it did. -/
def recordsFitUptoRow : OpenClaim := { program := "ytalilifegclelaa", sum := "1a928ab8ad0087883a13d7e5fcd6c72f367e2e6eaa9d072cd35a078a630ddbbd", func := "archipelago/archipelagolaw10.RecordsFit", spec := "recordsFit", unfollowed := true, recurses := true, apart := false, narrowed := true }
def RecordsFitUptoSaid : Prop := recordsFitUptoRow.holds Try.pinned (OpenSpec.upto recordsFitSpec)

end Rows
end Go.Proofs.Ytalilifegclelaa
