/-
  No cell of these rows narrows 'for every input' (looked for: loops, veiled, ifaces, maps, wideKeys, modest, calm, conditions, laid).
  DERIVED. THE GIVEN ROWS OF THIS SEAT. 6 by the template 'for every input the law returns true; each argument reads behind the call as it read before'; 0 by the template 'total and deterministic' (their statements: YtcooaagacdfbiaaTotals.lean).
  GIVEN WITH THE SEED: the statements are not yours to turn. If you find one false, say at which input.
  Laid BY PROGRAM, IN A SANDBOX (cutbox-rows.mjs): the forced cells as the released guide's own fill.sh prints them over the translation f11ac2ea62672d61… (all of the seat's roots in one cut). By AI agents, Wed Nov 11 2026. No macro, syntax, notation, axiom, sorry.
-/
import Derived.Test.YtcooaagacdfbiaaChecked
import GoSem.Claim
import GoSem.ClaimJoined
import GoSem.ClaimMapViews
import Derived.JoinedTies
import Derived.KernelRfl
namespace Go.Proofs.Ytcooaagacdfbiaa
/- THE CELL 'sum', in the pinned program and in every row, IS THE sha256 OF THE DUMP (.gsa) THAT YtcooaagacdfbiaaProg.lean LOADS. Nothing in Lean hashes anything: it is a label: what it is worth is what the hold of that sum in a sandbox is worth. -/
noncomputable def Try.pinned : Pinned := { name := "ytcooaagacdfbiaa", sum := "f11ac2ea62672d617abeaa80b27d6b756f12290ffcbb6a947618ae82ffe193ef", checked := Try.checked }
namespace Rows
def none {H : Type} : Left H := { results := [], args := [] }

/-- 'archipelagolaw09.OrdersEncode': WHATEVER THE INPUT: true; the input reads as it did. -/
def ordersEncodeSpec : ChangeSpec := { name := "ordersEncode", fn := fun _ => fun
  | [d] => { results := [.lit (.bool true)], args := [d] }
  | _ => none }
def ordersEncodeRow : OpenClaim := { program := "ytcooaagacdfbiaa", sum := "f11ac2ea62672d617abeaa80b27d6b756f12290ffcbb6a947618ae82ffe193ef", func := "archipelago/archipelagolaw09.OrdersEncode", spec := "ordersEncode", apart := false }
def OrdersEncodeSaid : Prop := ordersEncodeRow.holds Try.pinned (OpenSpec.ofChange ordersEncodeSpec)

/-- ITS FALSE NEIGHBOUR: 'it returns false'. Refute it at one input. -/
def ordersEncodeWrong : ChangeSpec := { name := "ordersEncode", fn := fun _ => fun
  | [d] => { results := [.lit (.bool false)], args := [d] }
  | _ => none }
def OrdersEncodeWrongFalsely : Prop := ordersEncodeRow.holds Try.pinned (OpenSpec.ofChange ordersEncodeWrong)

/-- 'archipelagolaw09.OrdersDecode': WHATEVER THE INPUT: true; the input reads as it did. -/
def ordersDecodeSpec : ChangeSpec := { name := "ordersDecode", fn := fun _ => fun
  | [d] => { results := [.lit (.bool true)], args := [d] }
  | _ => none }
def ordersDecodeRow : OpenClaim := { program := "ytcooaagacdfbiaa", sum := "f11ac2ea62672d617abeaa80b27d6b756f12290ffcbb6a947618ae82ffe193ef", func := "archipelago/archipelagolaw09.OrdersDecode", spec := "ordersDecode", apart := false }
def OrdersDecodeSaid : Prop := ordersDecodeRow.holds Try.pinned (OpenSpec.ofChange ordersDecodeSpec)

/-- ITS FALSE NEIGHBOUR: 'it returns false'. Refute it at one input. -/
def ordersDecodeWrong : ChangeSpec := { name := "ordersDecode", fn := fun _ => fun
  | [d] => { results := [.lit (.bool false)], args := [d] }
  | _ => none }
def OrdersDecodeWrongFalsely : Prop := ordersDecodeRow.holds Try.pinned (OpenSpec.ofChange ordersDecodeWrong)

/-- 'archipelagolaw09.OrdersBack': WHATEVER THE INPUT: true; the input reads as it did. -/
def ordersBackSpec : ChangeSpec := { name := "ordersBack", fn := fun _ => fun
  | [d1, d2] => { results := [.lit (.bool true)], args := [d1, d2] }
  | _ => none }
def ordersBackRow : OpenClaim := { program := "ytcooaagacdfbiaa", sum := "f11ac2ea62672d617abeaa80b27d6b756f12290ffcbb6a947618ae82ffe193ef", func := "archipelago/archipelagolaw09.OrdersBack", spec := "ordersBack", apart := false }
def OrdersBackSaid : Prop := ordersBackRow.holds Try.pinned (OpenSpec.ofChange ordersBackSpec)

/-- ITS FALSE NEIGHBOUR: 'it returns false'. Refute it at one input. -/
def ordersBackWrong : ChangeSpec := { name := "ordersBack", fn := fun _ => fun
  | [d1, d2] => { results := [.lit (.bool false)], args := [d1, d2] }
  | _ => none }
def OrdersBackWrongFalsely : Prop := ordersBackRow.holds Try.pinned (OpenSpec.ofChange ordersBackWrong)

/-- 'archipelagolaw09.OrdersApart': WHATEVER THE INPUT: true; the input reads as it did. -/
def ordersApartSpec : ChangeSpec := { name := "ordersApart", fn := fun _ => fun
  | [d1, d2, d3] => { results := [.lit (.bool true)], args := [d1, d2, d3] }
  | _ => none }
def ordersApartRow : OpenClaim := { program := "ytcooaagacdfbiaa", sum := "f11ac2ea62672d617abeaa80b27d6b756f12290ffcbb6a947618ae82ffe193ef", func := "archipelago/archipelagolaw09.OrdersApart", spec := "ordersApart", apart := false }
def OrdersApartSaid : Prop := ordersApartRow.holds Try.pinned (OpenSpec.ofChange ordersApartSpec)

/-- ITS FALSE NEIGHBOUR: 'it returns false'. Refute it at one input. -/
def ordersApartWrong : ChangeSpec := { name := "ordersApart", fn := fun _ => fun
  | [d1, d2, d3] => { results := [.lit (.bool false)], args := [d1, d2, d3] }
  | _ => none }
def OrdersApartWrongFalsely : Prop := ordersApartRow.holds Try.pinned (OpenSpec.ofChange ordersApartWrong)

/-- 'archipelagolaw09.OrdersParts': WHATEVER THE INPUT: true; the input reads as it did. -/
def ordersPartsSpec : ChangeSpec := { name := "ordersParts", fn := fun _ => fun
  | [d] => { results := [.lit (.bool true)], args := [d] }
  | _ => none }
def ordersPartsRow : OpenClaim := { program := "ytcooaagacdfbiaa", sum := "f11ac2ea62672d617abeaa80b27d6b756f12290ffcbb6a947618ae82ffe193ef", func := "archipelago/archipelagolaw09.OrdersParts", spec := "ordersParts", apart := false }
def OrdersPartsSaid : Prop := ordersPartsRow.holds Try.pinned (OpenSpec.ofChange ordersPartsSpec)

/-- ITS FALSE NEIGHBOUR: 'it returns false'. Refute it at one input. -/
def ordersPartsWrong : ChangeSpec := { name := "ordersParts", fn := fun _ => fun
  | [d] => { results := [.lit (.bool false)], args := [d] }
  | _ => none }
def OrdersPartsWrongFalsely : Prop := ordersPartsRow.holds Try.pinned (OpenSpec.ofChange ordersPartsWrong)

/-- 'archipelagolaw09.OrdersField': WHATEVER THE INPUT: true; the input reads as it did. -/
def ordersFieldSpec : ChangeSpec := { name := "ordersField", fn := fun _ => fun
  | [d1, d2, d3] => { results := [.lit (.bool true)], args := [d1, d2, d3] }
  | _ => none }
def ordersFieldRow : OpenClaim := { program := "ytcooaagacdfbiaa", sum := "f11ac2ea62672d617abeaa80b27d6b756f12290ffcbb6a947618ae82ffe193ef", func := "archipelago/archipelagolaw09.OrdersField", spec := "ordersField", apart := false }
def OrdersFieldSaid : Prop := ordersFieldRow.holds Try.pinned (OpenSpec.ofChange ordersFieldSpec)

/-- ITS FALSE NEIGHBOUR: 'it returns false'. Refute it at one input. -/
def ordersFieldWrong : ChangeSpec := { name := "ordersField", fn := fun _ => fun
  | [d1, d2, d3] => { results := [.lit (.bool false)], args := [d1, d2, d3] }
  | _ => none }
def OrdersFieldWrongFalsely : Prop := ordersFieldRow.holds Try.pinned (OpenSpec.ofChange ordersFieldWrong)

/- THE SECOND FORM. 'bulk': how many values and letters a reading holds, each counted each time it is reached (what is shared counts as often as it is met; a slice's spare places count too). A statement '..UptoSaid' is the law's where the arguments, and the package variables that the reading takes, are together of bulk at most 1048576: NARROWER than '..Said'. Prove '..Said' where nothing that the law and all that it calls make is longer than what came in: it says more and counts as full. Else prove '..UptoSaid'. A law counts once. -/
mutual
def uptoBulk {H : Type} : DataW H → Nat
  | .lit (.string bytes) => bytes.length + 1
  | .lit _ => 1
  | .nil => 1
  | .ptr d => uptoBulk d + 1
  | .slice elems spare => uptoBulkAll elems + uptoBulkAll spare + 1
  | .agg parts => uptoBulkAll parts + 1
  | .iface _ d => uptoBulk d + 1
  | .map entries => uptoBulkEntries entries + 1
  | .held _ => 1
def uptoBulkAll {H : Type} : List (DataW H) → Nat
  | [] => 0
  | d :: r => uptoBulk d + uptoBulkAll r
def uptoBulkEntries {H : Type} : List (Lit × DataW H) → Nat
  | [] => 0
  | x :: r => uptoBulkEntry x + uptoBulkEntries r
def uptoBulkEntry {H : Type} : Lit × DataW H → Nat
  | (.string bytes, d) => bytes.length + uptoBulk d + 1
  | (_, d) => uptoBulk d + 1
 end
def uptoSmall : (H : Type) → List (DataW H) → Bool := fun _ ds => decide (uptoBulkAll ds ≤ 1048576)
def OpenSpec.upto (s : _root_.Go.ChangeSpec) : _root_.Go.OpenSpec := { _root_.Go.OpenSpec.ofChange s with cond := some uptoSmall }

/-- 'archipelagolaw09.OrdersEncode', WHERE WHAT IT READS IS OF BULK AT MOST 1048576: true; the input reads as it did. -/
def ordersEncodeUptoRow : OpenClaim := { program := "ytcooaagacdfbiaa", sum := "f11ac2ea62672d617abeaa80b27d6b756f12290ffcbb6a947618ae82ffe193ef", func := "archipelago/archipelagolaw09.OrdersEncode", spec := "ordersEncode", apart := false, narrowed := true }
def OrdersEncodeUptoSaid : Prop := ordersEncodeUptoRow.holds Try.pinned (OpenSpec.upto ordersEncodeSpec)

/-- 'archipelagolaw09.OrdersDecode', WHERE WHAT IT READS IS OF BULK AT MOST 1048576: true; the input reads as it did. -/
def ordersDecodeUptoRow : OpenClaim := { program := "ytcooaagacdfbiaa", sum := "f11ac2ea62672d617abeaa80b27d6b756f12290ffcbb6a947618ae82ffe193ef", func := "archipelago/archipelagolaw09.OrdersDecode", spec := "ordersDecode", apart := false, narrowed := true }
def OrdersDecodeUptoSaid : Prop := ordersDecodeUptoRow.holds Try.pinned (OpenSpec.upto ordersDecodeSpec)

/-- 'archipelagolaw09.OrdersBack', WHERE WHAT IT READS IS OF BULK AT MOST 1048576: true; the input reads as it did. -/
def ordersBackUptoRow : OpenClaim := { program := "ytcooaagacdfbiaa", sum := "f11ac2ea62672d617abeaa80b27d6b756f12290ffcbb6a947618ae82ffe193ef", func := "archipelago/archipelagolaw09.OrdersBack", spec := "ordersBack", apart := false, narrowed := true }
def OrdersBackUptoSaid : Prop := ordersBackUptoRow.holds Try.pinned (OpenSpec.upto ordersBackSpec)

/-- 'archipelagolaw09.OrdersApart', WHERE WHAT IT READS IS OF BULK AT MOST 1048576: true; the input reads as it did. -/
def ordersApartUptoRow : OpenClaim := { program := "ytcooaagacdfbiaa", sum := "f11ac2ea62672d617abeaa80b27d6b756f12290ffcbb6a947618ae82ffe193ef", func := "archipelago/archipelagolaw09.OrdersApart", spec := "ordersApart", apart := false, narrowed := true }
def OrdersApartUptoSaid : Prop := ordersApartUptoRow.holds Try.pinned (OpenSpec.upto ordersApartSpec)

/-- 'archipelagolaw09.OrdersParts', WHERE WHAT IT READS IS OF BULK AT MOST 1048576: true; the input reads as it did. -/
def ordersPartsUptoRow : OpenClaim := { program := "ytcooaagacdfbiaa", sum := "f11ac2ea62672d617abeaa80b27d6b756f12290ffcbb6a947618ae82ffe193ef", func := "archipelago/archipelagolaw09.OrdersParts", spec := "ordersParts", apart := false, narrowed := true }
def OrdersPartsUptoSaid : Prop := ordersPartsUptoRow.holds Try.pinned (OpenSpec.upto ordersPartsSpec)

/-- 'archipelagolaw09.OrdersField', WHERE WHAT IT READS IS OF BULK AT MOST 1048576: true; the input reads as it did. -/
def ordersFieldUptoRow : OpenClaim := { program := "ytcooaagacdfbiaa", sum := "f11ac2ea62672d617abeaa80b27d6b756f12290ffcbb6a947618ae82ffe193ef", func := "archipelago/archipelagolaw09.OrdersField", spec := "ordersField", apart := false, narrowed := true }
def OrdersFieldUptoSaid : Prop := ordersFieldUptoRow.holds Try.pinned (OpenSpec.upto ordersFieldSpec)

end Rows
end Go.Proofs.Ytcooaagacdfbiaa
