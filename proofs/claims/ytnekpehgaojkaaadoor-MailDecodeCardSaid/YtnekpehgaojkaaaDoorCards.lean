/-
  DERIVED. GIVEN WITH THE SEED: THE CARDS: each row of YtnekpehgaojkaaaDoorRows.lean that lists a variable, with what it lists TIED to the program's text (the seventh form; the later family's looks); each row that meets fmt, with fmt's text TOLD by the authors' own Lean function (tested against real Go, not proved from fmt's source: count such statements apart). THE CARD IS WHAT COUNTS. Prove the row's statement (the work); the ties are given (YtnekpehgaojkaaaDoorTie.lean); close each card by the builder's one call (the guide's Derived/Test/ToyasCard.lean, 'card_holds'). Laid BY PROGRAM, IN A SANDBOX (cutbox-door.mjs). By AI agents, Wed Nov 11 2026. No macro, syntax, notation, axiom, sorry.
-/
import Derived.Test.YtnekpehgaojkaaaDoorRows
import GoSem.ClaimSeven
namespace Go.Proofs.YtnekpehgaojkaaaDoor
namespace Rows

/-- THE TIED CARD OF 'archipelagolaw11.MailEncode'. -/
def mailEncodeCard : Claim7 := { stood := { row := mailEncodeRow, standIns := [], harness := (true, "dd12fa5bf69e91b94fb4539a787e21861d56f1a7026bb839251935bf9affeafb"), looks := false }, kinds := [], alts := [], laidByText := true, laidKinds := [.data], laidTests := true, laidLooks := .later }
def MailEncodeCardSaid : Prop := Claim7.holds Tryd.pinned (.plain (OpenSpec.ofChange mailEncodeSpec)) mailEncodeCard

/-- THE TIED CARD OF 'archipelagolaw11.MailDecode'. -/
def mailDecodeCard : Claim7 := { stood := { row := mailDecodeRow, standIns := [], harness := (true, "dd12fa5bf69e91b94fb4539a787e21861d56f1a7026bb839251935bf9affeafb"), looks := false }, kinds := [], alts := [], laidByText := true, laidKinds := [.data], laidTests := true, laidLooks := .later }
def MailDecodeCardSaid : Prop := Claim7.holds Tryd.pinned (.plain (OpenSpec.ofChange mailDecodeSpec)) mailDecodeCard

/-- THE TIED CARD OF 'archipelagolaw11.MailBack'. -/
def mailBackCard : Claim7 := { stood := { row := mailBackRow, standIns := [], harness := (true, "dd12fa5bf69e91b94fb4539a787e21861d56f1a7026bb839251935bf9affeafb"), looks := false }, kinds := [], alts := [], laidByText := true, laidKinds := [.data], laidTests := true, laidLooks := .later }
def MailBackCardSaid : Prop := Claim7.holds Tryd.pinned (.plain (OpenSpec.ofChange mailBackSpec)) mailBackCard

/-- THE TIED CARD OF 'archipelagolaw11.MailSites'. -/
def mailSitesCard : Claim7 := { stood := { row := mailSitesRow, standIns := [], harness := (true, "dd12fa5bf69e91b94fb4539a787e21861d56f1a7026bb839251935bf9affeafb"), looks := false }, kinds := [], alts := [], laidByText := true, laidKinds := [.data], laidTests := true, laidLooks := .later }
def MailSitesCardSaid : Prop := Claim7.holds Tryd.pinned (.plain (OpenSpec.ofChange mailSitesSpec)) mailSitesCard

/-- THE TIED CARD OF 'archipelagolaw11.MailEnds'. -/
def mailEndsCard : Claim7 := { stood := { row := mailEndsRow, standIns := [], harness := (true, "dd12fa5bf69e91b94fb4539a787e21861d56f1a7026bb839251935bf9affeafb"), looks := false }, kinds := [], alts := [], laidByText := true, laidKinds := [.data], laidTests := true, laidLooks := .later }
def MailEndsCardSaid : Prop := Claim7.holds Tryd.pinned (.plain (OpenSpec.ofChange mailEndsSpec)) mailEndsCard

/-- THE TIED CARD OF 'archipelagolaw11.MailForward'. -/
def mailForwardCard : Claim7 := { stood := { row := mailForwardRow, standIns := [], harness := (true, "dd12fa5bf69e91b94fb4539a787e21861d56f1a7026bb839251935bf9affeafb"), looks := false }, kinds := [], alts := [], laidByText := true, laidKinds := [.data], laidTests := true, laidLooks := .later }
def MailForwardCardSaid : Prop := Claim7.holds Tryd.pinned (.plain (OpenSpec.ofChange mailForwardSpec)) mailForwardCard

/-- THE SECOND FORM's CARD OF 'archipelagolaw11.MailEncode'. -/
def mailEncodeUptoCard : Claim7 := { stood := { row := mailEncodeUptoRow, standIns := [], harness := (true, "dd12fa5bf69e91b94fb4539a787e21861d56f1a7026bb839251935bf9affeafb"), looks := false }, kinds := [], alts := [], laidByText := true, laidKinds := [.data], laidTests := true, laidLooks := .later }
def MailEncodeUptoCardSaid : Prop := Claim7.holds Tryd.pinned (.plain (OpenSpec.upto mailEncodeSpec)) mailEncodeUptoCard

/-- THE SECOND FORM's CARD OF 'archipelagolaw11.MailDecode'. -/
def mailDecodeUptoCard : Claim7 := { stood := { row := mailDecodeUptoRow, standIns := [], harness := (true, "dd12fa5bf69e91b94fb4539a787e21861d56f1a7026bb839251935bf9affeafb"), looks := false }, kinds := [], alts := [], laidByText := true, laidKinds := [.data], laidTests := true, laidLooks := .later }
def MailDecodeUptoCardSaid : Prop := Claim7.holds Tryd.pinned (.plain (OpenSpec.upto mailDecodeSpec)) mailDecodeUptoCard

/-- THE SECOND FORM's CARD OF 'archipelagolaw11.MailBack'. -/
def mailBackUptoCard : Claim7 := { stood := { row := mailBackUptoRow, standIns := [], harness := (true, "dd12fa5bf69e91b94fb4539a787e21861d56f1a7026bb839251935bf9affeafb"), looks := false }, kinds := [], alts := [], laidByText := true, laidKinds := [.data], laidTests := true, laidLooks := .later }
def MailBackUptoCardSaid : Prop := Claim7.holds Tryd.pinned (.plain (OpenSpec.upto mailBackSpec)) mailBackUptoCard

/-- THE SECOND FORM's CARD OF 'archipelagolaw11.MailSites'. -/
def mailSitesUptoCard : Claim7 := { stood := { row := mailSitesUptoRow, standIns := [], harness := (true, "dd12fa5bf69e91b94fb4539a787e21861d56f1a7026bb839251935bf9affeafb"), looks := false }, kinds := [], alts := [], laidByText := true, laidKinds := [.data], laidTests := true, laidLooks := .later }
def MailSitesUptoCardSaid : Prop := Claim7.holds Tryd.pinned (.plain (OpenSpec.upto mailSitesSpec)) mailSitesUptoCard

/-- THE SECOND FORM's CARD OF 'archipelagolaw11.MailEnds'. -/
def mailEndsUptoCard : Claim7 := { stood := { row := mailEndsUptoRow, standIns := [], harness := (true, "dd12fa5bf69e91b94fb4539a787e21861d56f1a7026bb839251935bf9affeafb"), looks := false }, kinds := [], alts := [], laidByText := true, laidKinds := [.data], laidTests := true, laidLooks := .later }
def MailEndsUptoCardSaid : Prop := Claim7.holds Tryd.pinned (.plain (OpenSpec.upto mailEndsSpec)) mailEndsUptoCard

/-- THE SECOND FORM's CARD OF 'archipelagolaw11.MailForward'. -/
def mailForwardUptoCard : Claim7 := { stood := { row := mailForwardUptoRow, standIns := [], harness := (true, "dd12fa5bf69e91b94fb4539a787e21861d56f1a7026bb839251935bf9affeafb"), looks := false }, kinds := [], alts := [], laidByText := true, laidKinds := [.data], laidTests := true, laidLooks := .later }
def MailForwardUptoCardSaid : Prop := Claim7.holds Tryd.pinned (.plain (OpenSpec.upto mailForwardSpec)) mailForwardUptoCard
end Rows
end Go.Proofs.YtnekpehgaojkaaaDoor
