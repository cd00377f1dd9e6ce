/-
  DERIVED. GIVEN WITH THE SEED: THE CARDS: each row of YtcnibnhoebckfaaGreatDoorRows.lean that lists a variable, with what it lists TIED to the program's text (the seventh form; the later family's looks); each row that meets fmt, with fmt's text TOLD by the authors' own Lean function (tested against real Go, not proved from fmt's source: count such statements apart). THE CARD IS WHAT COUNTS. Prove the row's statement (the work); the ties are given (YtcnibnhoebckfaaGreatDoorTie.lean); close each card by the builder's one call (the guide's Derived/Test/ToyasCard.lean, 'card_holds'). Laid BY PROGRAM, IN A SANDBOX (cutbox-door.mjs). By AI agents, Wed Nov 11 2026. No macro, syntax, notation, axiom, sorry.
-/
import Derived.Test.YtcnibnhoebckfaaGreatDoorRows
import GoSem.ClaimSeven
namespace Go.Proofs.YtcnibnhoebckfaaGreatDoor
namespace Rows

/-- THE TIED CARD OF 'mantraplaw20.CacheNone'. -/
def cacheNoneCard : Claim7 := { stood := { row := cacheNoneRow, standIns := [], harness := (true, "0f69ae8aa63b338eb57c3ff9c0292b473c328ce33dc3cc27c7bf78cb50c1b986"), looks := true }, kinds := [], alts := [], laidByText := true, laidKinds := [.data, .data, .data, .data, .sentinel, .sentinel, .pinned], laidTests := true, laidLooks := .later }
def CacheNoneCardSaid : Prop := Claim7.holds Tryz.pinned (.plain (OpenSpec.ofChange cacheNoneSpec)) cacheNoneCard

/-- THE TIED CARD OF 'mantraplaw21.AnswersNone'. -/
def answersNoneCard : Claim7 := { stood := { row := answersNoneRow, standIns := [], harness := (true, "0f69ae8aa63b338eb57c3ff9c0292b473c328ce33dc3cc27c7bf78cb50c1b986"), looks := true }, kinds := [], alts := [], laidByText := true, laidKinds := [.data, .data, .data, .data, .sentinel, .sentinel, .pinned], laidTests := true, laidLooks := .later }
def AnswersNoneCardSaid : Prop := Claim7.holds Tryz.pinned (.plain (OpenSpec.ofChange answersNoneSpec)) answersNoneCard

/-- THE SECOND FORM's CARD OF 'mantraplaw20.CacheNone'. -/
def cacheNoneUptoCard : Claim7 := { stood := { row := cacheNoneUptoRow, standIns := [], harness := (true, "0f69ae8aa63b338eb57c3ff9c0292b473c328ce33dc3cc27c7bf78cb50c1b986"), looks := true }, kinds := [], alts := [], laidByText := true, laidKinds := [.data, .data, .data, .data, .sentinel, .sentinel, .pinned], laidTests := true, laidLooks := .later }
def CacheNoneUptoCardSaid : Prop := Claim7.holds Tryz.pinned (.plain (OpenSpec.upto cacheNoneSpec)) cacheNoneUptoCard

/-- THE SECOND FORM's CARD OF 'mantraplaw21.AnswersNone'. -/
def answersNoneUptoCard : Claim7 := { stood := { row := answersNoneUptoRow, standIns := [], harness := (true, "0f69ae8aa63b338eb57c3ff9c0292b473c328ce33dc3cc27c7bf78cb50c1b986"), looks := true }, kinds := [], alts := [], laidByText := true, laidKinds := [.data, .data, .data, .data, .sentinel, .sentinel, .pinned], laidTests := true, laidLooks := .later }
def AnswersNoneUptoCardSaid : Prop := Claim7.holds Tryz.pinned (.plain (OpenSpec.upto answersNoneSpec)) answersNoneUptoCard
end Rows
end Go.Proofs.YtcnibnhoebckfaaGreatDoor
