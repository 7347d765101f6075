/-
  No cell of these rows narrows 'for every input' (looked for: loops, veiled, ifaces, maps, wideKeys, modest, calm, conditions, laid).
  DERIVED. THE GIVEN ROWS OF THIS SEAT. 8 by the template 'for every input the law returns true; each argument reads behind the call as it read before'; 0 by the template 'total and deterministic' (their statements: YtadhfaefcdihgaaTotals.lean).
  GIVEN WITH THE SEED: the statements are not yours to turn. If you find one false, say at which input.
  Laid BY PROGRAM, IN A SANDBOX (cutbox-rows.mjs): the forced cells as the released guide's own fill.sh prints them over the translation c05d8d76c7a5c611… (all of the seat's roots in one cut). By AI agents, Wed Nov 11 2026. No macro, syntax, notation, axiom, sorry.
-/
import Derived.Test.YtadhfaefcdihgaaChecked
import GoSem.Claim
import GoSem.ClaimJoined
import GoSem.ClaimMapViews
import Derived.JoinedTies
import Derived.KernelRfl
namespace Go.Proofs.Ytadhfaefcdihgaa
/- THE CELL 'sum', in the pinned program and in every row, IS THE sha256 OF THE DUMP (.gsa) THAT YtadhfaefcdihgaaProg.lean LOADS. Nothing in Lean hashes anything: it is a label: what it is worth is what the hold of that sum in a sandbox is worth. -/
noncomputable def Try.pinned : Pinned := { name := "ytadhfaefcdihgaa", sum := "c05d8d76c7a5c6118f37d8b71e6f501f1de5fe23d543af5aba5a5bfbadd6091f", checked := Try.checked }
namespace Rows
def none {H : Type} : Left H := { results := [], args := [] }

/-- 'archipelagolaw01.MarksPut': WHATEVER THE INPUT: true; the input reads as it did. -/
def marksPutSpec : ChangeSpec := { name := "marksPut", fn := fun _ => fun
  | [d] => { results := [.lit (.bool true)], args := [d] }
  | _ => none }
def marksPutRow : OpenClaim := { program := "ytadhfaefcdihgaa", sum := "c05d8d76c7a5c6118f37d8b71e6f501f1de5fe23d543af5aba5a5bfbadd6091f", func := "archipelago/archipelagolaw01.MarksPut", spec := "marksPut", apart := false }
def MarksPutSaid : Prop := marksPutRow.holds Try.pinned (OpenSpec.ofChange marksPutSpec)

/-- ITS FALSE NEIGHBOUR: 'it returns false'. Refute it at one input. -/
def marksPutWrong : ChangeSpec := { name := "marksPut", fn := fun _ => fun
  | [d] => { results := [.lit (.bool false)], args := [d] }
  | _ => none }
def MarksPutWrongFalsely : Prop := marksPutRow.holds Try.pinned (OpenSpec.ofChange marksPutWrong)

/-- 'archipelagolaw01.MarksGet': WHATEVER THE INPUT: true; the input reads as it did. -/
def marksGetSpec : ChangeSpec := { name := "marksGet", fn := fun _ => fun
  | [d1, d2] => { results := [.lit (.bool true)], args := [d1, d2] }
  | _ => none }
def marksGetRow : OpenClaim := { program := "ytadhfaefcdihgaa", sum := "c05d8d76c7a5c6118f37d8b71e6f501f1de5fe23d543af5aba5a5bfbadd6091f", func := "archipelago/archipelagolaw01.MarksGet", spec := "marksGet", apart := false }
def MarksGetSaid : Prop := marksGetRow.holds Try.pinned (OpenSpec.ofChange marksGetSpec)

/-- ITS FALSE NEIGHBOUR: 'it returns false'. Refute it at one input. -/
def marksGetWrong : ChangeSpec := { name := "marksGet", fn := fun _ => fun
  | [d1, d2] => { results := [.lit (.bool false)], args := [d1, d2] }
  | _ => none }
def MarksGetWrongFalsely : Prop := marksGetRow.holds Try.pinned (OpenSpec.ofChange marksGetWrong)

/-- 'archipelagolaw01.MarksFew': WHATEVER THE INPUT: true; the input reads as it did. -/
def marksFewSpec : ChangeSpec := { name := "marksFew", fn := fun _ => fun
  | [d] => { results := [.lit (.bool true)], args := [d] }
  | _ => none }
def marksFewRow : OpenClaim := { program := "ytadhfaefcdihgaa", sum := "c05d8d76c7a5c6118f37d8b71e6f501f1de5fe23d543af5aba5a5bfbadd6091f", func := "archipelago/archipelagolaw01.MarksFew", spec := "marksFew", apart := false }
def MarksFewSaid : Prop := marksFewRow.holds Try.pinned (OpenSpec.ofChange marksFewSpec)

/-- ITS FALSE NEIGHBOUR: 'it returns false'. Refute it at one input. -/
def marksFewWrong : ChangeSpec := { name := "marksFew", fn := fun _ => fun
  | [d] => { results := [.lit (.bool false)], args := [d] }
  | _ => none }
def MarksFewWrongFalsely : Prop := marksFewRow.holds Try.pinned (OpenSpec.ofChange marksFewWrong)

/-- 'archipelagolaw01.MarksTexts': WHATEVER THE INPUT: true; the input reads as it did. -/
def marksTextsSpec : ChangeSpec := { name := "marksTexts", fn := fun _ => fun
  | [d1, d2, d3] => { results := [.lit (.bool true)], args := [d1, d2, d3] }
  | _ => none }
def marksTextsRow : OpenClaim := { program := "ytadhfaefcdihgaa", sum := "c05d8d76c7a5c6118f37d8b71e6f501f1de5fe23d543af5aba5a5bfbadd6091f", func := "archipelago/archipelagolaw01.MarksTexts", spec := "marksTexts", apart := false }
def MarksTextsSaid : Prop := marksTextsRow.holds Try.pinned (OpenSpec.ofChange marksTextsSpec)

/-- ITS FALSE NEIGHBOUR: 'it returns false'. Refute it at one input. -/
def marksTextsWrong : ChangeSpec := { name := "marksTexts", fn := fun _ => fun
  | [d1, d2, d3] => { results := [.lit (.bool false)], args := [d1, d2, d3] }
  | _ => none }
def MarksTextsWrongFalsely : Prop := marksTextsRow.holds Try.pinned (OpenSpec.ofChange marksTextsWrong)

/-- 'archipelagolaw01.MarksBack': WHATEVER THE INPUT: true; the input reads as it did. -/
def marksBackSpec : ChangeSpec := { name := "marksBack", fn := fun _ => fun
  | [d1, d2, d3] => { results := [.lit (.bool true)], args := [d1, d2, d3] }
  | _ => none }
def marksBackRow : OpenClaim := { program := "ytadhfaefcdihgaa", sum := "c05d8d76c7a5c6118f37d8b71e6f501f1de5fe23d543af5aba5a5bfbadd6091f", func := "archipelago/archipelagolaw01.MarksBack", spec := "marksBack", apart := false }
def MarksBackSaid : Prop := marksBackRow.holds Try.pinned (OpenSpec.ofChange marksBackSpec)

/-- ITS FALSE NEIGHBOUR: 'it returns false'. Refute it at one input. -/
def marksBackWrong : ChangeSpec := { name := "marksBack", fn := fun _ => fun
  | [d1, d2, d3] => { results := [.lit (.bool false)], args := [d1, d2, d3] }
  | _ => none }
def MarksBackWrongFalsely : Prop := marksBackRow.holds Try.pinned (OpenSpec.ofChange marksBackWrong)

/-- 'archipelagolaw01.MarksWay': WHATEVER THE INPUT: true; the input reads as it did. -/
def marksWaySpec : ChangeSpec := { name := "marksWay", fn := fun _ => fun
  | [d1, d2] => { results := [.lit (.bool true)], args := [d1, d2] }
  | _ => none }
def marksWayRow : OpenClaim := { program := "ytadhfaefcdihgaa", sum := "c05d8d76c7a5c6118f37d8b71e6f501f1de5fe23d543af5aba5a5bfbadd6091f", func := "archipelago/archipelagolaw01.MarksWay", spec := "marksWay", apart := false }
def MarksWaySaid : Prop := marksWayRow.holds Try.pinned (OpenSpec.ofChange marksWaySpec)

/-- ITS FALSE NEIGHBOUR: 'it returns false'. Refute it at one input. -/
def marksWayWrong : ChangeSpec := { name := "marksWay", fn := fun _ => fun
  | [d1, d2] => { results := [.lit (.bool false)], args := [d1, d2] }
  | _ => none }
def MarksWayWrongFalsely : Prop := marksWayRow.holds Try.pinned (OpenSpec.ofChange marksWayWrong)

/-- 'archipelagolaw01.MarksLists': WHATEVER THE INPUT: true; the input reads as it did. -/
def marksListsSpec : ChangeSpec := { name := "marksLists", fn := fun _ => fun
  | [d1, d2, d3] => { results := [.lit (.bool true)], args := [d1, d2, d3] }
  | _ => none }
def marksListsRow : OpenClaim := { program := "ytadhfaefcdihgaa", sum := "c05d8d76c7a5c6118f37d8b71e6f501f1de5fe23d543af5aba5a5bfbadd6091f", func := "archipelago/archipelagolaw01.MarksLists", spec := "marksLists", apart := false }
def MarksListsSaid : Prop := marksListsRow.holds Try.pinned (OpenSpec.ofChange marksListsSpec)

/-- ITS FALSE NEIGHBOUR: 'it returns false'. Refute it at one input. -/
def marksListsWrong : ChangeSpec := { name := "marksLists", fn := fun _ => fun
  | [d1, d2, d3] => { results := [.lit (.bool false)], args := [d1, d2, d3] }
  | _ => none }
def MarksListsWrongFalsely : Prop := marksListsRow.holds Try.pinned (OpenSpec.ofChange marksListsWrong)

/-- 'archipelagolaw01.MarksCut': WHATEVER THE INPUT: true; the input reads as it did. -/
def marksCutSpec : ChangeSpec := { name := "marksCut", fn := fun _ => fun
  | [d1, d2, d3] => { results := [.lit (.bool true)], args := [d1, d2, d3] }
  | _ => none }
def marksCutRow : OpenClaim := { program := "ytadhfaefcdihgaa", sum := "c05d8d76c7a5c6118f37d8b71e6f501f1de5fe23d543af5aba5a5bfbadd6091f", func := "archipelago/archipelagolaw01.MarksCut", spec := "marksCut", apart := false }
def MarksCutSaid : Prop := marksCutRow.holds Try.pinned (OpenSpec.ofChange marksCutSpec)

/-- ITS FALSE NEIGHBOUR: 'it returns false'. Refute it at one input. -/
def marksCutWrong : ChangeSpec := { name := "marksCut", fn := fun _ => fun
  | [d1, d2, d3] => { results := [.lit (.bool false)], args := [d1, d2, d3] }
  | _ => none }
def MarksCutWrongFalsely : Prop := marksCutRow.holds Try.pinned (OpenSpec.ofChange marksCutWrong)

/- THE SECOND FORM. 'bulk': how many values and letters a reading holds, each counted each time it is reached (what is shared counts as often as it is met; a slice's spare places count too). A statement '..UptoSaid' is the law's where the arguments, and the package variables that the reading takes, are together of bulk at most 1048576: NARROWER than '..Said'. Prove '..Said' where nothing that the law and all that it calls make is longer than what came in: it says more and counts as full. Else prove '..UptoSaid'. A law counts once. -/
mutual
def uptoBulk {H : Type} : DataW H → Nat
  | .lit (.string bytes) => bytes.length + 1
  | .lit _ => 1
  | .nil => 1
  | .ptr d => uptoBulk d + 1
  | .slice elems spare => uptoBulkAll elems + uptoBulkAll spare + 1
  | .agg parts => uptoBulkAll parts + 1
  | .iface _ d => uptoBulk d + 1
  | .map entries => uptoBulkEntries entries + 1
  | .held _ => 1
def uptoBulkAll {H : Type} : List (DataW H) → Nat
  | [] => 0
  | d :: r => uptoBulk d + uptoBulkAll r
def uptoBulkEntries {H : Type} : List (Lit × DataW H) → Nat
  | [] => 0
  | x :: r => uptoBulkEntry x + uptoBulkEntries r
def uptoBulkEntry {H : Type} : Lit × DataW H → Nat
  | (.string bytes, d) => bytes.length + uptoBulk d + 1
  | (_, d) => uptoBulk d + 1
 end
def uptoSmall : (H : Type) → List (DataW H) → Bool := fun _ ds => decide (uptoBulkAll ds ≤ 1048576)
def OpenSpec.upto (s : _root_.Go.ChangeSpec) : _root_.Go.OpenSpec := { _root_.Go.OpenSpec.ofChange s with cond := some uptoSmall }

/-- 'archipelagolaw01.MarksPut', WHERE WHAT IT READS IS OF BULK AT MOST 1048576: true; the input reads as it did. -/
def marksPutUptoRow : OpenClaim := { program := "ytadhfaefcdihgaa", sum := "c05d8d76c7a5c6118f37d8b71e6f501f1de5fe23d543af5aba5a5bfbadd6091f", func := "archipelago/archipelagolaw01.MarksPut", spec := "marksPut", apart := false, narrowed := true }
def MarksPutUptoSaid : Prop := marksPutUptoRow.holds Try.pinned (OpenSpec.upto marksPutSpec)

/-- 'archipelagolaw01.MarksGet', WHERE WHAT IT READS IS OF BULK AT MOST 1048576: true; the input reads as it did. -/
def marksGetUptoRow : OpenClaim := { program := "ytadhfaefcdihgaa", sum := "c05d8d76c7a5c6118f37d8b71e6f501f1de5fe23d543af5aba5a5bfbadd6091f", func := "archipelago/archipelagolaw01.MarksGet", spec := "marksGet", apart := false, narrowed := true }
def MarksGetUptoSaid : Prop := marksGetUptoRow.holds Try.pinned (OpenSpec.upto marksGetSpec)

/-- 'archipelagolaw01.MarksFew', WHERE WHAT IT READS IS OF BULK AT MOST 1048576: true; the input reads as it did. -/
def marksFewUptoRow : OpenClaim := { program := "ytadhfaefcdihgaa", sum := "c05d8d76c7a5c6118f37d8b71e6f501f1de5fe23d543af5aba5a5bfbadd6091f", func := "archipelago/archipelagolaw01.MarksFew", spec := "marksFew", apart := false, narrowed := true }
def MarksFewUptoSaid : Prop := marksFewUptoRow.holds Try.pinned (OpenSpec.upto marksFewSpec)

/-- 'archipelagolaw01.MarksTexts', WHERE WHAT IT READS IS OF BULK AT MOST 1048576: true; the input reads as it did. -/
def marksTextsUptoRow : OpenClaim := { program := "ytadhfaefcdihgaa", sum := "c05d8d76c7a5c6118f37d8b71e6f501f1de5fe23d543af5aba5a5bfbadd6091f", func := "archipelago/archipelagolaw01.MarksTexts", spec := "marksTexts", apart := false, narrowed := true }
def MarksTextsUptoSaid : Prop := marksTextsUptoRow.holds Try.pinned (OpenSpec.upto marksTextsSpec)

/-- 'archipelagolaw01.MarksBack', WHERE WHAT IT READS IS OF BULK AT MOST 1048576: true; the input reads as it did. -/
def marksBackUptoRow : OpenClaim := { program := "ytadhfaefcdihgaa", sum := "c05d8d76c7a5c6118f37d8b71e6f501f1de5fe23d543af5aba5a5bfbadd6091f", func := "archipelago/archipelagolaw01.MarksBack", spec := "marksBack", apart := false, narrowed := true }
def MarksBackUptoSaid : Prop := marksBackUptoRow.holds Try.pinned (OpenSpec.upto marksBackSpec)

/-- 'archipelagolaw01.MarksWay', WHERE WHAT IT READS IS OF BULK AT MOST 1048576: true; the input reads as it did. -/
def marksWayUptoRow : OpenClaim := { program := "ytadhfaefcdihgaa", sum := "c05d8d76c7a5c6118f37d8b71e6f501f1de5fe23d543af5aba5a5bfbadd6091f", func := "archipelago/archipelagolaw01.MarksWay", spec := "marksWay", apart := false, narrowed := true }
def MarksWayUptoSaid : Prop := marksWayUptoRow.holds Try.pinned (OpenSpec.upto marksWaySpec)

/-- 'archipelagolaw01.MarksLists', WHERE WHAT IT READS IS OF BULK AT MOST 1048576: true; the input reads as it did. -/
def marksListsUptoRow : OpenClaim := { program := "ytadhfaefcdihgaa", sum := "c05d8d76c7a5c6118f37d8b71e6f501f1de5fe23d543af5aba5a5bfbadd6091f", func := "archipelago/archipelagolaw01.MarksLists", spec := "marksLists", apart := false, narrowed := true }
def MarksListsUptoSaid : Prop := marksListsUptoRow.holds Try.pinned (OpenSpec.upto marksListsSpec)

/-- 'archipelagolaw01.MarksCut', WHERE WHAT IT READS IS OF BULK AT MOST 1048576: true; the input reads as it did. -/
def marksCutUptoRow : OpenClaim := { program := "ytadhfaefcdihgaa", sum := "c05d8d76c7a5c6118f37d8b71e6f501f1de5fe23d543af5aba5a5bfbadd6091f", func := "archipelago/archipelagolaw01.MarksCut", spec := "marksCut", apart := false, narrowed := true }
def MarksCutUptoSaid : Prop := marksCutUptoRow.holds Try.pinned (OpenSpec.upto marksCutSpec)

end Rows
end Go.Proofs.Ytadhfaefcdihgaa
