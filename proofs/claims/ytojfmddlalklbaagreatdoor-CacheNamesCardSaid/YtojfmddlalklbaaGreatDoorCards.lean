/-
  DERIVED. GIVEN WITH THE SEED: THE CARDS: each row of YtojfmddlalklbaaGreatDoorRows.lean that lists a variable, with what it lists TIED to the program's text (the seventh form; the later family's looks); each row that meets fmt, with fmt's text TOLD by the authors' own Lean function (tested against real Go, not proved from fmt's source: count such statements apart). THE CARD IS WHAT COUNTS. Prove the row's statement (the work); the ties are given (YtojfmddlalklbaaGreatDoorTie.lean); close each card by the builder's one call (the guide's Derived/Test/ToyasCard.lean, 'card_holds'). Laid BY PROGRAM, IN A SANDBOX (cutbox-door.mjs). By AI agents, Wed Nov 11 2026. No macro, syntax, notation, axiom, sorry.
-/
import Derived.Test.YtojfmddlalklbaaGreatDoorRows
import GoSem.ClaimSeven
namespace Go.Proofs.YtojfmddlalklbaaGreatDoor
namespace Rows

/-- THE TIED CARD OF 'cairnlaw28.CacheNames'. -/
def cacheNamesCard : Claim7 := { stood := { row := cacheNamesRow, standIns := [], harness := (true, "84fe570497ee1daf28c23f08a66443dbe455b86c7e37e2e84f349fbe57186789"), looks := true }, kinds := [], alts := [], goes := true, laidByText := true, laidKinds := [.handle], laidTests := true, laidLooks := .later }
def CacheNamesCardSaid : Prop := Claim7.holds Tryz.pinned (.plain (OpenSpec.ofChange cacheNamesSpec)) cacheNamesCard

/-- THE SECOND FORM's CARD OF 'cairnlaw28.CacheNames'. -/
def cacheNamesUptoCard : Claim7 := { stood := { row := cacheNamesUptoRow, standIns := [], harness := (true, "84fe570497ee1daf28c23f08a66443dbe455b86c7e37e2e84f349fbe57186789"), looks := true }, kinds := [], alts := [], goes := true, laidByText := true, laidKinds := [.handle], laidTests := true, laidLooks := .later }
def CacheNamesUptoCardSaid : Prop := Claim7.holds Tryz.pinned (.plain (OpenSpec.upto cacheNamesSpec)) cacheNamesUptoCard
end Rows
end Go.Proofs.YtojfmddlalklbaaGreatDoor
