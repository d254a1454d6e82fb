/-
  DERIVED. GIVEN WITH THE SEED: THE CARDS: each row of YtldlcejlfaogbaaGreatDoorRows.lean that lists a variable, with what it lists TIED to the program's text (the seventh form; the later family's looks); each row that meets fmt, with fmt's text TOLD by the authors' own Lean function (tested against real Go, not proved from fmt's source: count such statements apart). THE CARD IS WHAT COUNTS. Prove the row's statement (the work); the ties are given (YtldlcejlfaogbaaGreatDoorTie.lean); close each card by the builder's one call (the guide's Derived/Test/ToyasCard.lean, 'card_holds'). Laid BY PROGRAM, IN A SANDBOX (cutbox-door.mjs). By AI agents, Wed Nov 11 2026. No macro, syntax, notation, axiom, sorry.
-/
import Derived.Test.YtldlcejlfaogbaaGreatDoorRows
import GoSem.ClaimSeven
namespace Go.Proofs.YtldlcejlfaogbaaGreatDoor
namespace Rows

/-- THE TIED CARD OF 'ablautlaw25.ScriptNets'. -/
def scriptNetsCard : Claim7 := { stood := { row := scriptNetsRow, standIns := [], harness := (true, "1b3937318e30d0fd867cce83c546c53cd43e12188c961b49845ddffff708e0ae"), looks := false }, kinds := [], alts := [], laidByText := true, laidKinds := [.data, .pinned], laidTests := true, laidLooks := .later }
def ScriptNetsCardSaid : Prop := Claim7.holds Tryz.pinned (.plain (OpenSpec.ofChange scriptNetsSpec)) scriptNetsCard

/-- THE TIED CARD OF 'ablautlaw25.ScriptReverses'. -/
def scriptReversesCard : Claim7 := { stood := { row := scriptReversesRow, standIns := [], harness := (true, "1b3937318e30d0fd867cce83c546c53cd43e12188c961b49845ddffff708e0ae"), looks := false }, kinds := [], alts := [], laidByText := true, laidKinds := [.data, .pinned], laidTests := true, laidLooks := .later }
def ScriptReversesCardSaid : Prop := Claim7.holds Tryz.pinned (.plain (OpenSpec.ofChange scriptReversesSpec)) scriptReversesCard

/-- THE TIED CARD OF 'ablautlaw25.ScriptTexts'. -/
def scriptTextsCard : Claim7 := { stood := { row := scriptTextsRow, standIns := [], harness := (true, "1b3937318e30d0fd867cce83c546c53cd43e12188c961b49845ddffff708e0ae"), looks := false }, kinds := [], alts := [], laidByText := true, laidKinds := [.data, .pinned], laidTests := true, laidLooks := .later }
def ScriptTextsCardSaid : Prop := Claim7.holds Tryz.pinned (.plain (OpenSpec.ofChange scriptTextsSpec)) scriptTextsCard

/-- THE TIED CARD OF 'ablautlaw25.ScriptBacks'. -/
def scriptBacksCard : Claim7 := { stood := { row := scriptBacksRow, standIns := [], harness := (true, "1b3937318e30d0fd867cce83c546c53cd43e12188c961b49845ddffff708e0ae"), looks := false }, kinds := [], alts := [], laidByText := true, laidKinds := [.data, .pinned], laidTests := true, laidLooks := .later }
def ScriptBacksCardSaid : Prop := Claim7.holds Tryz.pinned (.plain (OpenSpec.ofChange scriptBacksSpec)) scriptBacksCard

/-- THE TIED CARD OF 'ablautlaw25.ScriptFound'. -/
def scriptFoundCard : Claim7 := { stood := { row := scriptFoundRow, standIns := [], harness := (true, "1b3937318e30d0fd867cce83c546c53cd43e12188c961b49845ddffff708e0ae"), looks := false }, kinds := [], alts := [], laidByText := true, laidKinds := [.data, .pinned], laidTests := true, laidLooks := .later }
def ScriptFoundCardSaid : Prop := Claim7.holds Tryz.pinned (.plain (OpenSpec.ofChange scriptFoundSpec)) scriptFoundCard

/-- THE SECOND FORM's CARD OF 'ablautlaw25.ScriptNets'. -/
def scriptNetsUptoCard : Claim7 := { stood := { row := scriptNetsUptoRow, standIns := [], harness := (true, "1b3937318e30d0fd867cce83c546c53cd43e12188c961b49845ddffff708e0ae"), looks := false }, kinds := [], alts := [], laidByText := true, laidKinds := [.data, .pinned], laidTests := true, laidLooks := .later }
def ScriptNetsUptoCardSaid : Prop := Claim7.holds Tryz.pinned (.plain (OpenSpec.upto scriptNetsSpec)) scriptNetsUptoCard

/-- THE SECOND FORM's CARD OF 'ablautlaw25.ScriptReverses'. -/
def scriptReversesUptoCard : Claim7 := { stood := { row := scriptReversesUptoRow, standIns := [], harness := (true, "1b3937318e30d0fd867cce83c546c53cd43e12188c961b49845ddffff708e0ae"), looks := false }, kinds := [], alts := [], laidByText := true, laidKinds := [.data, .pinned], laidTests := true, laidLooks := .later }
def ScriptReversesUptoCardSaid : Prop := Claim7.holds Tryz.pinned (.plain (OpenSpec.upto scriptReversesSpec)) scriptReversesUptoCard

/-- THE SECOND FORM's CARD OF 'ablautlaw25.ScriptTexts'. -/
def scriptTextsUptoCard : Claim7 := { stood := { row := scriptTextsUptoRow, standIns := [], harness := (true, "1b3937318e30d0fd867cce83c546c53cd43e12188c961b49845ddffff708e0ae"), looks := false }, kinds := [], alts := [], laidByText := true, laidKinds := [.data, .pinned], laidTests := true, laidLooks := .later }
def ScriptTextsUptoCardSaid : Prop := Claim7.holds Tryz.pinned (.plain (OpenSpec.upto scriptTextsSpec)) scriptTextsUptoCard

/-- THE SECOND FORM's CARD OF 'ablautlaw25.ScriptBacks'. -/
def scriptBacksUptoCard : Claim7 := { stood := { row := scriptBacksUptoRow, standIns := [], harness := (true, "1b3937318e30d0fd867cce83c546c53cd43e12188c961b49845ddffff708e0ae"), looks := false }, kinds := [], alts := [], laidByText := true, laidKinds := [.data, .pinned], laidTests := true, laidLooks := .later }
def ScriptBacksUptoCardSaid : Prop := Claim7.holds Tryz.pinned (.plain (OpenSpec.upto scriptBacksSpec)) scriptBacksUptoCard

/-- THE SECOND FORM's CARD OF 'ablautlaw25.ScriptFound'. -/
def scriptFoundUptoCard : Claim7 := { stood := { row := scriptFoundUptoRow, standIns := [], harness := (true, "1b3937318e30d0fd867cce83c546c53cd43e12188c961b49845ddffff708e0ae"), looks := false }, kinds := [], alts := [], laidByText := true, laidKinds := [.data, .pinned], laidTests := true, laidLooks := .later }
def ScriptFoundUptoCardSaid : Prop := Claim7.holds Tryz.pinned (.plain (OpenSpec.upto scriptFoundSpec)) scriptFoundUptoCard
end Rows
end Go.Proofs.YtldlcejlfaogbaaGreatDoor
