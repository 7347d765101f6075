/-
  No cell of these rows narrows 'for every input' (looked for: loops, veiled, ifaces, maps, wideKeys, modest, calm, conditions, laid).
  DERIVED. THE GIVEN ROWS OF THIS SEAT. 7 by the template 'for every input the law returns true; each argument reads behind the call as it read before'; 0 by the template 'total and deterministic' (their statements: YtcgiceebcombeaaTotals.lean).
  GIVEN WITH THE SEED: the statements are not yours to turn. If you find one false, say at which input.
  Laid BY PROGRAM, IN A SANDBOX (cutbox-rows.mjs): the forced cells as the released guide's own fill.sh prints them over the translation 51d612279bb19f2f… (all of the seat's roots in one cut). By AI agents, Wed Nov 11 2026. No macro, syntax, notation, axiom, sorry.
-/
import Derived.Test.YtcgiceebcombeaaChecked
import GoSem.Claim
import GoSem.ClaimJoined
import GoSem.ClaimMapViews
import Derived.JoinedTies
import Derived.KernelRfl
namespace Go.Proofs.Ytcgiceebcombeaa
/- THE CELL 'sum', in the pinned program and in every row, IS THE sha256 OF THE DUMP (.gsa) THAT YtcgiceebcombeaaProg.lean LOADS. Nothing in Lean hashes anything: it is a label: what it is worth is what the hold of that sum in a sandbox is worth. -/
noncomputable def Try.pinned : Pinned := { name := "ytcgiceebcombeaa", sum := "51d612279bb19f2fa55f56794be4f5abe04b4f1e2c5c6909e1a37ce1f02c64b3", checked := Try.checked }
namespace Rows
def none {H : Type} : Left H := { results := [], args := [] }

/-- 'archipelagolaw03.FramesOne': WHATEVER THE INPUT: true; the input reads as it did. -/
def framesOneSpec : ChangeSpec := { name := "framesOne", fn := fun _ => fun
  | [d] => { results := [.lit (.bool true)], args := [d] }
  | _ => none }
def framesOneRow : OpenClaim := { program := "ytcgiceebcombeaa", sum := "51d612279bb19f2fa55f56794be4f5abe04b4f1e2c5c6909e1a37ce1f02c64b3", func := "archipelago/archipelagolaw03.FramesOne", spec := "framesOne", apart := false }
def FramesOneSaid : Prop := framesOneRow.holds Try.pinned (OpenSpec.ofChange framesOneSpec)

/-- ITS FALSE NEIGHBOUR: 'it returns false'. Refute it at one input. -/
def framesOneWrong : ChangeSpec := { name := "framesOne", fn := fun _ => fun
  | [d] => { results := [.lit (.bool false)], args := [d] }
  | _ => none }
def FramesOneWrongFalsely : Prop := framesOneRow.holds Try.pinned (OpenSpec.ofChange framesOneWrong)

/-- 'archipelagolaw03.FramesNext': WHATEVER THE INPUT: true; the input reads as it did. -/
def framesNextSpec : ChangeSpec := { name := "framesNext", fn := fun _ => fun
  | [d1, d2] => { results := [.lit (.bool true)], args := [d1, d2] }
  | _ => none }
def framesNextRow : OpenClaim := { program := "ytcgiceebcombeaa", sum := "51d612279bb19f2fa55f56794be4f5abe04b4f1e2c5c6909e1a37ce1f02c64b3", func := "archipelago/archipelagolaw03.FramesNext", spec := "framesNext", apart := false }
def FramesNextSaid : Prop := framesNextRow.holds Try.pinned (OpenSpec.ofChange framesNextSpec)

/-- ITS FALSE NEIGHBOUR: 'it returns false'. Refute it at one input. -/
def framesNextWrong : ChangeSpec := { name := "framesNext", fn := fun _ => fun
  | [d1, d2] => { results := [.lit (.bool false)], args := [d1, d2] }
  | _ => none }
def FramesNextWrongFalsely : Prop := framesNextRow.holds Try.pinned (OpenSpec.ofChange framesNextWrong)

/-- 'archipelagolaw03.FramesWhole': WHATEVER THE INPUT: true; the input reads as it did. -/
def framesWholeSpec : ChangeSpec := { name := "framesWhole", fn := fun _ => fun
  | [d] => { results := [.lit (.bool true)], args := [d] }
  | _ => none }
def framesWholeRow : OpenClaim := { program := "ytcgiceebcombeaa", sum := "51d612279bb19f2fa55f56794be4f5abe04b4f1e2c5c6909e1a37ce1f02c64b3", func := "archipelago/archipelagolaw03.FramesWhole", spec := "framesWhole", apart := false }
def FramesWholeSaid : Prop := framesWholeRow.holds Try.pinned (OpenSpec.ofChange framesWholeSpec)

/-- ITS FALSE NEIGHBOUR: 'it returns false'. Refute it at one input. -/
def framesWholeWrong : ChangeSpec := { name := "framesWhole", fn := fun _ => fun
  | [d] => { results := [.lit (.bool false)], args := [d] }
  | _ => none }
def FramesWholeWrongFalsely : Prop := framesWholeRow.holds Try.pinned (OpenSpec.ofChange framesWholeWrong)

/-- 'archipelagolaw03.FramesBack': WHATEVER THE INPUT: true; the input reads as it did. -/
def framesBackSpec : ChangeSpec := { name := "framesBack", fn := fun _ => fun
  | [d] => { results := [.lit (.bool true)], args := [d] }
  | _ => none }
def framesBackRow : OpenClaim := { program := "ytcgiceebcombeaa", sum := "51d612279bb19f2fa55f56794be4f5abe04b4f1e2c5c6909e1a37ce1f02c64b3", func := "archipelago/archipelagolaw03.FramesBack", spec := "framesBack", apart := false }
def FramesBackSaid : Prop := framesBackRow.holds Try.pinned (OpenSpec.ofChange framesBackSpec)

/-- ITS FALSE NEIGHBOUR: 'it returns false'. Refute it at one input. -/
def framesBackWrong : ChangeSpec := { name := "framesBack", fn := fun _ => fun
  | [d] => { results := [.lit (.bool false)], args := [d] }
  | _ => none }
def FramesBackWrongFalsely : Prop := framesBackRow.holds Try.pinned (OpenSpec.ofChange framesBackWrong)

/-- 'archipelagolaw03.FramesTorn': WHATEVER THE INPUT: true; the input reads as it did. -/
def framesTornSpec : ChangeSpec := { name := "framesTorn", fn := fun _ => fun
  | [d1, d2] => { results := [.lit (.bool true)], args := [d1, d2] }
  | _ => none }
def framesTornRow : OpenClaim := { program := "ytcgiceebcombeaa", sum := "51d612279bb19f2fa55f56794be4f5abe04b4f1e2c5c6909e1a37ce1f02c64b3", func := "archipelago/archipelagolaw03.FramesTorn", spec := "framesTorn", apart := false }
def FramesTornSaid : Prop := framesTornRow.holds Try.pinned (OpenSpec.ofChange framesTornSpec)

/-- ITS FALSE NEIGHBOUR: 'it returns false'. Refute it at one input. -/
def framesTornWrong : ChangeSpec := { name := "framesTorn", fn := fun _ => fun
  | [d1, d2] => { results := [.lit (.bool false)], args := [d1, d2] }
  | _ => none }
def FramesTornWrongFalsely : Prop := framesTornRow.holds Try.pinned (OpenSpec.ofChange framesTornWrong)

/-- 'archipelagolaw03.FramesSpoilt': WHATEVER THE INPUT: true; the input reads as it did. -/
def framesSpoiltSpec : ChangeSpec := { name := "framesSpoilt", fn := fun _ => fun
  | [d1, d2, d3] => { results := [.lit (.bool true)], args := [d1, d2, d3] }
  | _ => none }
def framesSpoiltRow : OpenClaim := { program := "ytcgiceebcombeaa", sum := "51d612279bb19f2fa55f56794be4f5abe04b4f1e2c5c6909e1a37ce1f02c64b3", func := "archipelago/archipelagolaw03.FramesSpoilt", spec := "framesSpoilt", apart := false }
def FramesSpoiltSaid : Prop := framesSpoiltRow.holds Try.pinned (OpenSpec.ofChange framesSpoiltSpec)

/-- ITS FALSE NEIGHBOUR: 'it returns false'. Refute it at one input. -/
def framesSpoiltWrong : ChangeSpec := { name := "framesSpoilt", fn := fun _ => fun
  | [d1, d2, d3] => { results := [.lit (.bool false)], args := [d1, d2, d3] }
  | _ => none }
def FramesSpoiltWrongFalsely : Prop := framesSpoiltRow.holds Try.pinned (OpenSpec.ofChange framesSpoiltWrong)

/-- 'archipelagolaw03.FramesAlone': WHATEVER THE INPUT: true; the input reads as it did. -/
def framesAloneSpec : ChangeSpec := { name := "framesAlone", fn := fun _ => fun
  | [d1, d2] => { results := [.lit (.bool true)], args := [d1, d2] }
  | _ => none }
def framesAloneRow : OpenClaim := { program := "ytcgiceebcombeaa", sum := "51d612279bb19f2fa55f56794be4f5abe04b4f1e2c5c6909e1a37ce1f02c64b3", func := "archipelago/archipelagolaw03.FramesAlone", spec := "framesAlone", apart := false }
def FramesAloneSaid : Prop := framesAloneRow.holds Try.pinned (OpenSpec.ofChange framesAloneSpec)

/-- ITS FALSE NEIGHBOUR: 'it returns false'. Refute it at one input. -/
def framesAloneWrong : ChangeSpec := { name := "framesAlone", fn := fun _ => fun
  | [d1, d2] => { results := [.lit (.bool false)], args := [d1, d2] }
  | _ => none }
def FramesAloneWrongFalsely : Prop := framesAloneRow.holds Try.pinned (OpenSpec.ofChange framesAloneWrong)

/- THE SECOND FORM. 'bulk': how many values and letters a reading holds, each counted each time it is reached (what is shared counts as often as it is met; a slice's spare places count too). A statement '..UptoSaid' is the law's where the arguments, and the package variables that the reading takes, are together of bulk at most 1048576: NARROWER than '..Said'. Prove '..Said' where nothing that the law and all that it calls make is longer than what came in: it says more and counts as full. Else prove '..UptoSaid'. A law counts once. -/
mutual
def uptoBulk {H : Type} : DataW H → Nat
  | .lit (.string bytes) => bytes.length + 1
  | .lit _ => 1
  | .nil => 1
  | .ptr d => uptoBulk d + 1
  | .slice elems spare => uptoBulkAll elems + uptoBulkAll spare + 1
  | .agg parts => uptoBulkAll parts + 1
  | .iface _ d => uptoBulk d + 1
  | .map entries => uptoBulkEntries entries + 1
  | .held _ => 1
def uptoBulkAll {H : Type} : List (DataW H) → Nat
  | [] => 0
  | d :: r => uptoBulk d + uptoBulkAll r
def uptoBulkEntries {H : Type} : List (Lit × DataW H) → Nat
  | [] => 0
  | x :: r => uptoBulkEntry x + uptoBulkEntries r
def uptoBulkEntry {H : Type} : Lit × DataW H → Nat
  | (.string bytes, d) => bytes.length + uptoBulk d + 1
  | (_, d) => uptoBulk d + 1
 end
def uptoSmall : (H : Type) → List (DataW H) → Bool := fun _ ds => decide (uptoBulkAll ds ≤ 1048576)
def OpenSpec.upto (s : _root_.Go.ChangeSpec) : _root_.Go.OpenSpec := { _root_.Go.OpenSpec.ofChange s with cond := some uptoSmall }

/-- 'archipelagolaw03.FramesOne', WHERE WHAT IT READS IS OF BULK AT MOST 1048576: true; the input reads as it did. -/
def framesOneUptoRow : OpenClaim := { program := "ytcgiceebcombeaa", sum := "51d612279bb19f2fa55f56794be4f5abe04b4f1e2c5c6909e1a37ce1f02c64b3", func := "archipelago/archipelagolaw03.FramesOne", spec := "framesOne", apart := false, narrowed := true }
def FramesOneUptoSaid : Prop := framesOneUptoRow.holds Try.pinned (OpenSpec.upto framesOneSpec)

/-- 'archipelagolaw03.FramesNext', WHERE WHAT IT READS IS OF BULK AT MOST 1048576: true; the input reads as it did. -/
def framesNextUptoRow : OpenClaim := { program := "ytcgiceebcombeaa", sum := "51d612279bb19f2fa55f56794be4f5abe04b4f1e2c5c6909e1a37ce1f02c64b3", func := "archipelago/archipelagolaw03.FramesNext", spec := "framesNext", apart := false, narrowed := true }
def FramesNextUptoSaid : Prop := framesNextUptoRow.holds Try.pinned (OpenSpec.upto framesNextSpec)

/-- 'archipelagolaw03.FramesWhole', WHERE WHAT IT READS IS OF BULK AT MOST 1048576: true; the input reads as it did. -/
def framesWholeUptoRow : OpenClaim := { program := "ytcgiceebcombeaa", sum := "51d612279bb19f2fa55f56794be4f5abe04b4f1e2c5c6909e1a37ce1f02c64b3", func := "archipelago/archipelagolaw03.FramesWhole", spec := "framesWhole", apart := false, narrowed := true }
def FramesWholeUptoSaid : Prop := framesWholeUptoRow.holds Try.pinned (OpenSpec.upto framesWholeSpec)

/-- 'archipelagolaw03.FramesBack', WHERE WHAT IT READS IS OF BULK AT MOST 1048576: true; the input reads as it did. -/
def framesBackUptoRow : OpenClaim := { program := "ytcgiceebcombeaa", sum := "51d612279bb19f2fa55f56794be4f5abe04b4f1e2c5c6909e1a37ce1f02c64b3", func := "archipelago/archipelagolaw03.FramesBack", spec := "framesBack", apart := false, narrowed := true }
def FramesBackUptoSaid : Prop := framesBackUptoRow.holds Try.pinned (OpenSpec.upto framesBackSpec)

/-- 'archipelagolaw03.FramesTorn', WHERE WHAT IT READS IS OF BULK AT MOST 1048576: true; the input reads as it did. -/
def framesTornUptoRow : OpenClaim := { program := "ytcgiceebcombeaa", sum := "51d612279bb19f2fa55f56794be4f5abe04b4f1e2c5c6909e1a37ce1f02c64b3", func := "archipelago/archipelagolaw03.FramesTorn", spec := "framesTorn", apart := false, narrowed := true }
def FramesTornUptoSaid : Prop := framesTornUptoRow.holds Try.pinned (OpenSpec.upto framesTornSpec)

/-- 'archipelagolaw03.FramesSpoilt', WHERE WHAT IT READS IS OF BULK AT MOST 1048576: true; the input reads as it did. -/
def framesSpoiltUptoRow : OpenClaim := { program := "ytcgiceebcombeaa", sum := "51d612279bb19f2fa55f56794be4f5abe04b4f1e2c5c6909e1a37ce1f02c64b3", func := "archipelago/archipelagolaw03.FramesSpoilt", spec := "framesSpoilt", apart := false, narrowed := true }
def FramesSpoiltUptoSaid : Prop := framesSpoiltUptoRow.holds Try.pinned (OpenSpec.upto framesSpoiltSpec)

/-- 'archipelagolaw03.FramesAlone', WHERE WHAT IT READS IS OF BULK AT MOST 1048576: true; the input reads as it did. -/
def framesAloneUptoRow : OpenClaim := { program := "ytcgiceebcombeaa", sum := "51d612279bb19f2fa55f56794be4f5abe04b4f1e2c5c6909e1a37ce1f02c64b3", func := "archipelago/archipelagolaw03.FramesAlone", spec := "framesAlone", apart := false, narrowed := true }
def FramesAloneUptoSaid : Prop := framesAloneUptoRow.holds Try.pinned (OpenSpec.upto framesAloneSpec)

end Rows
end Go.Proofs.Ytcgiceebcombeaa
