/-
  DERIVED. GIVEN WITH THE SEED: THE CARDS: each row of YtakdjflhhaefiaaGreatDoorRows.lean that lists a variable, with what it lists TIED to the program's text (the seventh form; the later family's looks); each row that meets fmt, with fmt's text TOLD by the authors' own Lean function (tested against real Go, not proved from fmt's source: count such statements apart). THE CARD IS WHAT COUNTS. Prove the row's statement (the work); the ties are given (YtakdjflhhaefiaaGreatDoorTie.lean); close each card by the builder's one call (the guide's Derived/Test/ToyasCard.lean, 'card_holds'). Laid BY PROGRAM, IN A SANDBOX (cutbox-door.mjs). By AI agents, Wed Nov 11 2026. No macro, syntax, notation, axiom, sorry.
-/
import Derived.Test.YtakdjflhhaefiaaGreatDoorRows
import GoSem.ClaimSeven
namespace Go.Proofs.YtakdjflhhaefiaaGreatDoor
namespace Rows

/-- THE TIED CARD OF 'mantraplaw12.HostReads'. -/
def hostReadsCard : Claim7 := { stood := { row := hostReadsRow, standIns := [], harness := (true, "2b6d453f9d49b0c0ccecfd092d521e62e52ab512c1d7a61918eb9f53a3e295cd"), looks := true }, kinds := [], alts := [], laidByText := true, laidKinds := [.data, .data, .data, .data, .sentinel, .sentinel, .pinned], laidTests := true, laidLooks := .later }
def HostReadsCardSaid : Prop := Claim7.holds Tryz.pinned (.plain (OpenSpec.ofChange hostReadsSpec)) hostReadsCard

/-- THE TIED CARD OF 'mantraplaw12.HostOnce'. -/
def hostOnceCard : Claim7 := { stood := { row := hostOnceRow, standIns := [], harness := (true, "2b6d453f9d49b0c0ccecfd092d521e62e52ab512c1d7a61918eb9f53a3e295cd"), looks := true }, kinds := [], alts := [], laidByText := true, laidKinds := [.data, .data, .data, .data, .sentinel, .sentinel, .pinned], laidTests := true, laidLooks := .later }
def HostOnceCardSaid : Prop := Claim7.holds Tryz.pinned (.plain (OpenSpec.ofChange hostOnceSpec)) hostOnceCard

/-- THE TIED CARD OF 'mantraplaw15.AbnfReads'. -/
def abnfReadsCard : Claim7 := { stood := { row := abnfReadsRow, standIns := [], harness := (true, "2b6d453f9d49b0c0ccecfd092d521e62e52ab512c1d7a61918eb9f53a3e295cd"), looks := true }, kinds := [], alts := [], laidByText := true, laidKinds := [.data, .data, .data, .data, .sentinel, .sentinel, .pinned], laidTests := true, laidLooks := .later }
def AbnfReadsCardSaid : Prop := Claim7.holds Tryz.pinned (.plain (OpenSpec.ofChange abnfReadsSpec)) abnfReadsCard

/-- THE TIED CARD OF 'mantraplaw15.AbnfBack'. -/
def abnfBackCard : Claim7 := { stood := { row := abnfBackRow, standIns := [], harness := (true, "2b6d453f9d49b0c0ccecfd092d521e62e52ab512c1d7a61918eb9f53a3e295cd"), looks := true }, kinds := [], alts := [], laidByText := true, laidKinds := [.data, .data, .data, .data, .sentinel, .sentinel, .pinned], laidTests := true, laidLooks := .later }
def AbnfBackCardSaid : Prop := Claim7.holds Tryz.pinned (.plain (OpenSpec.ofChange abnfBackSpec)) abnfBackCard

/-- THE TIED CARD OF 'mantraplaw16.DotsOnce'. -/
def dotsOnceCard : Claim7 := { stood := { row := dotsOnceRow, standIns := [], harness := (true, "2b6d453f9d49b0c0ccecfd092d521e62e52ab512c1d7a61918eb9f53a3e295cd"), looks := true }, kinds := [], alts := [], laidByText := true, laidKinds := [.data, .data, .data, .data, .sentinel, .sentinel, .pinned], laidTests := true, laidLooks := .later }
def DotsOnceCardSaid : Prop := Claim7.holds Tryz.pinned (.plain (OpenSpec.ofChange dotsOnceSpec)) dotsOnceCard

/-- THE TIED CARD OF 'mantraplaw16.DotsGo'. -/
def dotsGoCard : Claim7 := { stood := { row := dotsGoRow, standIns := [], harness := (true, "2b6d453f9d49b0c0ccecfd092d521e62e52ab512c1d7a61918eb9f53a3e295cd"), looks := true }, kinds := [], alts := [], laidByText := true, laidKinds := [.data, .data, .data, .data, .sentinel, .sentinel, .pinned], laidTests := true, laidLooks := .later }
def DotsGoCardSaid : Prop := Claim7.holds Tryz.pinned (.plain (OpenSpec.ofChange dotsGoSpec)) dotsGoCard

/-- THE TIED CARD OF 'mantraplaw17.ResolveRight'. -/
def resolveRightCard : Claim7 := { stood := { row := resolveRightRow, standIns := [], harness := (true, "2b6d453f9d49b0c0ccecfd092d521e62e52ab512c1d7a61918eb9f53a3e295cd"), looks := true }, kinds := [], alts := [], laidByText := true, laidKinds := [.data, .data, .data, .data, .sentinel, .sentinel, .pinned], laidTests := true, laidLooks := .later }
def ResolveRightCardSaid : Prop := Claim7.holds Tryz.pinned (.plain (OpenSpec.ofChange resolveRightSpec)) resolveRightCard

/-- THE TIED CARD OF 'mantraplaw16.DotsClimb'. -/
def dotsClimbCard : Claim7 := { stood := { row := dotsClimbRow, standIns := [], harness := (true, "2b6d453f9d49b0c0ccecfd092d521e62e52ab512c1d7a61918eb9f53a3e295cd"), looks := true }, kinds := [], alts := [], laidByText := true, laidKinds := [.data, .data, .data, .data, .sentinel, .sentinel, .pinned], laidTests := true, laidLooks := .later }
def DotsClimbCardSaid : Prop := Claim7.holds Tryz.pinned (.plain (OpenSpec.ofChange dotsClimbSpec)) dotsClimbCard

/-- THE SECOND FORM's CARD OF 'mantraplaw12.HostReads'. -/
def hostReadsUptoCard : Claim7 := { stood := { row := hostReadsUptoRow, standIns := [], harness := (true, "2b6d453f9d49b0c0ccecfd092d521e62e52ab512c1d7a61918eb9f53a3e295cd"), looks := true }, kinds := [], alts := [], laidByText := true, laidKinds := [.data, .data, .data, .data, .sentinel, .sentinel, .pinned], laidTests := true, laidLooks := .later }
def HostReadsUptoCardSaid : Prop := Claim7.holds Tryz.pinned (.plain (OpenSpec.upto hostReadsSpec)) hostReadsUptoCard

/-- THE SECOND FORM's CARD OF 'mantraplaw12.HostOnce'. -/
def hostOnceUptoCard : Claim7 := { stood := { row := hostOnceUptoRow, standIns := [], harness := (true, "2b6d453f9d49b0c0ccecfd092d521e62e52ab512c1d7a61918eb9f53a3e295cd"), looks := true }, kinds := [], alts := [], laidByText := true, laidKinds := [.data, .data, .data, .data, .sentinel, .sentinel, .pinned], laidTests := true, laidLooks := .later }
def HostOnceUptoCardSaid : Prop := Claim7.holds Tryz.pinned (.plain (OpenSpec.upto hostOnceSpec)) hostOnceUptoCard

/-- THE SECOND FORM's CARD OF 'mantraplaw15.AbnfReads'. -/
def abnfReadsUptoCard : Claim7 := { stood := { row := abnfReadsUptoRow, standIns := [], harness := (true, "2b6d453f9d49b0c0ccecfd092d521e62e52ab512c1d7a61918eb9f53a3e295cd"), looks := true }, kinds := [], alts := [], laidByText := true, laidKinds := [.data, .data, .data, .data, .sentinel, .sentinel, .pinned], laidTests := true, laidLooks := .later }
def AbnfReadsUptoCardSaid : Prop := Claim7.holds Tryz.pinned (.plain (OpenSpec.upto abnfReadsSpec)) abnfReadsUptoCard

/-- THE SECOND FORM's CARD OF 'mantraplaw15.AbnfBack'. -/
def abnfBackUptoCard : Claim7 := { stood := { row := abnfBackUptoRow, standIns := [], harness := (true, "2b6d453f9d49b0c0ccecfd092d521e62e52ab512c1d7a61918eb9f53a3e295cd"), looks := true }, kinds := [], alts := [], laidByText := true, laidKinds := [.data, .data, .data, .data, .sentinel, .sentinel, .pinned], laidTests := true, laidLooks := .later }
def AbnfBackUptoCardSaid : Prop := Claim7.holds Tryz.pinned (.plain (OpenSpec.upto abnfBackSpec)) abnfBackUptoCard

/-- THE SECOND FORM's CARD OF 'mantraplaw16.DotsOnce'. -/
def dotsOnceUptoCard : Claim7 := { stood := { row := dotsOnceUptoRow, standIns := [], harness := (true, "2b6d453f9d49b0c0ccecfd092d521e62e52ab512c1d7a61918eb9f53a3e295cd"), looks := true }, kinds := [], alts := [], laidByText := true, laidKinds := [.data, .data, .data, .data, .sentinel, .sentinel, .pinned], laidTests := true, laidLooks := .later }
def DotsOnceUptoCardSaid : Prop := Claim7.holds Tryz.pinned (.plain (OpenSpec.upto dotsOnceSpec)) dotsOnceUptoCard

/-- THE SECOND FORM's CARD OF 'mantraplaw16.DotsGo'. -/
def dotsGoUptoCard : Claim7 := { stood := { row := dotsGoUptoRow, standIns := [], harness := (true, "2b6d453f9d49b0c0ccecfd092d521e62e52ab512c1d7a61918eb9f53a3e295cd"), looks := true }, kinds := [], alts := [], laidByText := true, laidKinds := [.data, .data, .data, .data, .sentinel, .sentinel, .pinned], laidTests := true, laidLooks := .later }
def DotsGoUptoCardSaid : Prop := Claim7.holds Tryz.pinned (.plain (OpenSpec.upto dotsGoSpec)) dotsGoUptoCard

/-- THE SECOND FORM's CARD OF 'mantraplaw17.ResolveRight'. -/
def resolveRightUptoCard : Claim7 := { stood := { row := resolveRightUptoRow, standIns := [], harness := (true, "2b6d453f9d49b0c0ccecfd092d521e62e52ab512c1d7a61918eb9f53a3e295cd"), looks := true }, kinds := [], alts := [], laidByText := true, laidKinds := [.data, .data, .data, .data, .sentinel, .sentinel, .pinned], laidTests := true, laidLooks := .later }
def ResolveRightUptoCardSaid : Prop := Claim7.holds Tryz.pinned (.plain (OpenSpec.upto resolveRightSpec)) resolveRightUptoCard

/-- THE SECOND FORM's CARD OF 'mantraplaw16.DotsClimb'. -/
def dotsClimbUptoCard : Claim7 := { stood := { row := dotsClimbUptoRow, standIns := [], harness := (true, "2b6d453f9d49b0c0ccecfd092d521e62e52ab512c1d7a61918eb9f53a3e295cd"), looks := true }, kinds := [], alts := [], laidByText := true, laidKinds := [.data, .data, .data, .data, .sentinel, .sentinel, .pinned], laidTests := true, laidLooks := .later }
def DotsClimbUptoCardSaid : Prop := Claim7.holds Tryz.pinned (.plain (OpenSpec.upto dotsClimbSpec)) dotsClimbUptoCard
end Rows
end Go.Proofs.YtakdjflhhaefiaaGreatDoor
