/-
  DERIVED. GIVEN WITH THE SEED: THE CARDS: each row of YtdbnanbeaeafdaaGreatDoorRows.lean that lists a variable, with what it lists TIED to the program's text (the seventh form; the later family's looks); each row that meets fmt, with fmt's text TOLD by the authors' own Lean function (tested against real Go, not proved from fmt's source: count such statements apart). THE CARD IS WHAT COUNTS. Prove the row's statement (the work); the ties are given (YtdbnanbeaeafdaaGreatDoorTie.lean); close each card by the builder's one call (the guide's Derived/Test/ToyasCard.lean, 'card_holds'). Laid BY PROGRAM, IN A SANDBOX (cutbox-door.mjs). By AI agents, Wed Nov 11 2026. No macro, syntax, notation, axiom, sorry.
-/
import Derived.Test.YtdbnanbeaeafdaaGreatDoorRows
import GoSem.ClaimSeven
namespace Go.Proofs.YtdbnanbeaeafdaaGreatDoor
namespace Rows

/-- THE TIED CARD OF 'mantraplaw11.DomainReads'. -/
def domainReadsCard : Claim7 := { stood := { row := domainReadsRow, standIns := [], harness := (true, "9b0e3eb080c9adb2783261e5b638eca5b37562c8d620a023d1702bf45b49c1ae"), looks := true }, kinds := [], alts := [], laidByText := true, laidKinds := [.data, .data, .data, .data, .sentinel, .sentinel, .pinned], laidTests := true, laidLooks := .later }
def DomainReadsCardSaid : Prop := Claim7.holds Tryz.pinned (.plain (OpenSpec.ofChange domainReadsSpec)) domainReadsCard

/-- THE TIED CARD OF 'mantraplaw11.DomainJoins'. -/
def domainJoinsCard : Claim7 := { stood := { row := domainJoinsRow, standIns := [], harness := (true, "9b0e3eb080c9adb2783261e5b638eca5b37562c8d620a023d1702bf45b49c1ae"), looks := true }, kinds := [], alts := [], laidByText := true, laidKinds := [.data, .data, .data, .data, .sentinel, .sentinel, .pinned], laidTests := true, laidLooks := .later }
def DomainJoinsCardSaid : Prop := Claim7.holds Tryz.pinned (.plain (OpenSpec.ofChange domainJoinsSpec)) domainJoinsCard

/-- THE TIED CARD OF 'mantraplaw11.DomainBack'. -/
def domainBackCard : Claim7 := { stood := { row := domainBackRow, standIns := [], harness := (true, "9b0e3eb080c9adb2783261e5b638eca5b37562c8d620a023d1702bf45b49c1ae"), looks := true }, kinds := [], alts := [], laidByText := true, laidKinds := [.data, .data, .data, .data, .sentinel, .sentinel, .pinned], laidTests := true, laidLooks := .later }
def DomainBackCardSaid : Prop := Claim7.holds Tryz.pinned (.plain (OpenSpec.ofChange domainBackSpec)) domainBackCard

/-- THE TIED CARD OF 'mantraplaw12.HostReads'. -/
def hostReadsCard : Claim7 := { stood := { row := hostReadsRow, standIns := [], harness := (true, "9b0e3eb080c9adb2783261e5b638eca5b37562c8d620a023d1702bf45b49c1ae"), looks := true }, kinds := [], alts := [], laidByText := true, laidKinds := [.data, .data, .data, .data, .sentinel, .sentinel, .pinned], laidTests := true, laidLooks := .later }
def HostReadsCardSaid : Prop := Claim7.holds Tryz.pinned (.plain (OpenSpec.ofChange hostReadsSpec)) hostReadsCard

/-- THE TIED CARD OF 'mantraplaw12.HostOnce'. -/
def hostOnceCard : Claim7 := { stood := { row := hostOnceRow, standIns := [], harness := (true, "9b0e3eb080c9adb2783261e5b638eca5b37562c8d620a023d1702bf45b49c1ae"), looks := true }, kinds := [], alts := [], laidByText := true, laidKinds := [.data, .data, .data, .data, .sentinel, .sentinel, .pinned], laidTests := true, laidLooks := .later }
def HostOnceCardSaid : Prop := Claim7.holds Tryz.pinned (.plain (OpenSpec.ofChange hostOnceSpec)) hostOnceCard

/-- THE TIED CARD OF 'mantraplaw14.WhatwgReads'. -/
def whatwgReadsCard : Claim7 := { stood := { row := whatwgReadsRow, standIns := [], harness := (true, "9b0e3eb080c9adb2783261e5b638eca5b37562c8d620a023d1702bf45b49c1ae"), looks := true }, kinds := [], alts := [], laidByText := true, laidKinds := [.data, .data, .data, .data, .sentinel, .sentinel, .pinned], laidTests := true, laidLooks := .later }
def WhatwgReadsCardSaid : Prop := Claim7.holds Tryz.pinned (.plain (OpenSpec.ofChange whatwgReadsSpec)) whatwgReadsCard

/-- THE SECOND FORM's CARD OF 'mantraplaw11.DomainReads'. -/
def domainReadsUptoCard : Claim7 := { stood := { row := domainReadsUptoRow, standIns := [], harness := (true, "9b0e3eb080c9adb2783261e5b638eca5b37562c8d620a023d1702bf45b49c1ae"), looks := true }, kinds := [], alts := [], laidByText := true, laidKinds := [.data, .data, .data, .data, .sentinel, .sentinel, .pinned], laidTests := true, laidLooks := .later }
def DomainReadsUptoCardSaid : Prop := Claim7.holds Tryz.pinned (.plain (OpenSpec.upto domainReadsSpec)) domainReadsUptoCard

/-- THE SECOND FORM's CARD OF 'mantraplaw11.DomainJoins'. -/
def domainJoinsUptoCard : Claim7 := { stood := { row := domainJoinsUptoRow, standIns := [], harness := (true, "9b0e3eb080c9adb2783261e5b638eca5b37562c8d620a023d1702bf45b49c1ae"), looks := true }, kinds := [], alts := [], laidByText := true, laidKinds := [.data, .data, .data, .data, .sentinel, .sentinel, .pinned], laidTests := true, laidLooks := .later }
def DomainJoinsUptoCardSaid : Prop := Claim7.holds Tryz.pinned (.plain (OpenSpec.upto domainJoinsSpec)) domainJoinsUptoCard

/-- THE SECOND FORM's CARD OF 'mantraplaw11.DomainBack'. -/
def domainBackUptoCard : Claim7 := { stood := { row := domainBackUptoRow, standIns := [], harness := (true, "9b0e3eb080c9adb2783261e5b638eca5b37562c8d620a023d1702bf45b49c1ae"), looks := true }, kinds := [], alts := [], laidByText := true, laidKinds := [.data, .data, .data, .data, .sentinel, .sentinel, .pinned], laidTests := true, laidLooks := .later }
def DomainBackUptoCardSaid : Prop := Claim7.holds Tryz.pinned (.plain (OpenSpec.upto domainBackSpec)) domainBackUptoCard

/-- THE SECOND FORM's CARD OF 'mantraplaw12.HostReads'. -/
def hostReadsUptoCard : Claim7 := { stood := { row := hostReadsUptoRow, standIns := [], harness := (true, "9b0e3eb080c9adb2783261e5b638eca5b37562c8d620a023d1702bf45b49c1ae"), looks := true }, kinds := [], alts := [], laidByText := true, laidKinds := [.data, .data, .data, .data, .sentinel, .sentinel, .pinned], laidTests := true, laidLooks := .later }
def HostReadsUptoCardSaid : Prop := Claim7.holds Tryz.pinned (.plain (OpenSpec.upto hostReadsSpec)) hostReadsUptoCard

/-- THE SECOND FORM's CARD OF 'mantraplaw12.HostOnce'. -/
def hostOnceUptoCard : Claim7 := { stood := { row := hostOnceUptoRow, standIns := [], harness := (true, "9b0e3eb080c9adb2783261e5b638eca5b37562c8d620a023d1702bf45b49c1ae"), looks := true }, kinds := [], alts := [], laidByText := true, laidKinds := [.data, .data, .data, .data, .sentinel, .sentinel, .pinned], laidTests := true, laidLooks := .later }
def HostOnceUptoCardSaid : Prop := Claim7.holds Tryz.pinned (.plain (OpenSpec.upto hostOnceSpec)) hostOnceUptoCard

/-- THE SECOND FORM's CARD OF 'mantraplaw14.WhatwgReads'. -/
def whatwgReadsUptoCard : Claim7 := { stood := { row := whatwgReadsUptoRow, standIns := [], harness := (true, "9b0e3eb080c9adb2783261e5b638eca5b37562c8d620a023d1702bf45b49c1ae"), looks := true }, kinds := [], alts := [], laidByText := true, laidKinds := [.data, .data, .data, .data, .sentinel, .sentinel, .pinned], laidTests := true, laidLooks := .later }
def WhatwgReadsUptoCardSaid : Prop := Claim7.holds Tryz.pinned (.plain (OpenSpec.upto whatwgReadsSpec)) whatwgReadsUptoCard
end Rows
end Go.Proofs.YtdbnanbeaeafdaaGreatDoor
