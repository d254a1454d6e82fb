/-
  DERIVED. GIVEN WITH THE SEED: THE CARDS: each row of YthchlpikcpidaaaDoorRows.lean that lists a variable, with what it lists TIED to the program's text (the seventh form; the later family's looks); each row that meets fmt, with fmt's text TOLD by the authors' own Lean function (tested against real Go, not proved from fmt's source: count such statements apart). THE CARD IS WHAT COUNTS. Prove the row's statement (the work); the ties are given (YthchlpikcpidaaaDoorTie.lean); close each card by the builder's one call (the guide's Derived/Test/ToyasCard.lean, 'card_holds'). Laid BY PROGRAM, IN A SANDBOX (cutbox-door.mjs). By AI agents, Wed Nov 11 2026. No macro, syntax, notation, axiom, sorry.
-/
import Derived.Test.YthchlpikcpidaaaDoorRows
import GoSem.ClaimSeven
namespace Go.Proofs.YthchlpikcpidaaaDoor
namespace Rows

/-- THE TIED CARD OF 'ablautlaw18.GuessOrders'. -/
def guessOrdersCard : Claim7 := { stood := { row := guessOrdersRow, standIns := [], harness := (true, "e21e77fd5e66c521683828f0f9de2bc7f20d57f234f191b55999183e30164275"), looks := false }, kinds := [], alts := [], laidByText := true, laidKinds := [.data, .pinned], laidTests := true, laidLooks := .later }
def GuessOrdersCardSaid : Prop := Claim7.holds Tryd.pinned (.plain (OpenSpec.ofChange guessOrdersSpec)) guessOrdersCard

/-- THE SECOND FORM's CARD OF 'ablautlaw18.GuessOrders'. -/
def guessOrdersUptoCard : Claim7 := { stood := { row := guessOrdersUptoRow, standIns := [], harness := (true, "e21e77fd5e66c521683828f0f9de2bc7f20d57f234f191b55999183e30164275"), looks := false }, kinds := [], alts := [], laidByText := true, laidKinds := [.data, .pinned], laidTests := true, laidLooks := .later }
def GuessOrdersUptoCardSaid : Prop := Claim7.holds Tryd.pinned (.plain (OpenSpec.upto guessOrdersSpec)) guessOrdersUptoCard
end Rows
end Go.Proofs.YthchlpikcpidaaaDoor
