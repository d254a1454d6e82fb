/-
  DERIVED. GIVEN WITH THE SEED: THE CARDS: each row of YtpmjfoplpccblaaDoorRows.lean that lists a variable, with what it lists TIED to the program's text (the seventh form; the later family's looks); each row that meets fmt, with fmt's text TOLD by the authors' own Lean function (tested against real Go, not proved from fmt's source: count such statements apart). THE CARD IS WHAT COUNTS. Prove the row's statement (the work); the ties are given (YtpmjfoplpccblaaDoorTie.lean); close each card by the builder's one call (the guide's Derived/Test/ToyasCard.lean, 'card_holds'). Laid BY PROGRAM, IN A SANDBOX (cutbox-door.mjs). By AI agents, Wed Nov 11 2026. No macro, syntax, notation, axiom, sorry.
-/
import Derived.Test.YtpmjfoplpccblaaDoorRows
import GoSem.ClaimSeven
namespace Go.Proofs.YtpmjfoplpccblaaDoor
namespace Rows

/-- THE TIED CARD OF 'ablautlaw10.FlagMarks'. -/
def flagMarksCard : Claim7 := { stood := { row := flagMarksRow, standIns := [], harness := (true, "616e530c0ec410fca307ce12456bfcfb35b51d2e6514eaab9d3f28b548c7e44f"), looks := false }, kinds := [], alts := [], laidByText := true, laidKinds := [.data, .pinned], laidTests := true, laidLooks := .later }
def FlagMarksCardSaid : Prop := Claim7.holds Tryd.pinned (.plain (OpenSpec.ofChange flagMarksSpec)) flagMarksCard

/-- THE SECOND FORM's CARD OF 'ablautlaw10.FlagMarks'. -/
def flagMarksUptoCard : Claim7 := { stood := { row := flagMarksUptoRow, standIns := [], harness := (true, "616e530c0ec410fca307ce12456bfcfb35b51d2e6514eaab9d3f28b548c7e44f"), looks := false }, kinds := [], alts := [], laidByText := true, laidKinds := [.data, .pinned], laidTests := true, laidLooks := .later }
def FlagMarksUptoCardSaid : Prop := Claim7.holds Tryd.pinned (.plain (OpenSpec.upto flagMarksSpec)) flagMarksUptoCard
end Rows
end Go.Proofs.YtpmjfoplpccblaaDoor
