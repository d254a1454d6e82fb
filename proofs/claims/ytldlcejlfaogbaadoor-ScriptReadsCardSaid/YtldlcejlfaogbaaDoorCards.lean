/-
  DERIVED. GIVEN WITH THE SEED: THE CARDS: each row of YtldlcejlfaogbaaDoorRows.lean that lists a variable, with what it lists TIED to the program's text (the seventh form; the later family's looks); each row that meets fmt, with fmt's text TOLD by the authors' own Lean function (tested against real Go, not proved from fmt's source: count such statements apart). THE CARD IS WHAT COUNTS. Prove the row's statement (the work); the ties are given (YtldlcejlfaogbaaDoorTie.lean); close each card by the builder's one call (the guide's Derived/Test/ToyasCard.lean, 'card_holds'). Laid BY PROGRAM, IN A SANDBOX (cutbox-door.mjs). By AI agents, Wed Nov 11 2026. No macro, syntax, notation, axiom, sorry.
-/
import Derived.Test.YtldlcejlfaogbaaDoorRows
import GoSem.ClaimSeven
namespace Go.Proofs.YtldlcejlfaogbaaDoor
namespace Rows

/-- THE TIED CARD OF 'ablautlaw25.ScriptJoins'. -/
def scriptJoinsCard : Claim7 := { stood := { row := scriptJoinsRow, standIns := [], harness := (true, "0aa6e5307e8aab7a4e5aef312807a6d28c8670990cdd3ff14ad842aeb73aad8f"), looks := false }, kinds := [], alts := [], laidByText := true, laidKinds := [.data, .pinned], laidTests := true, laidLooks := .later }
def ScriptJoinsCardSaid : Prop := Claim7.holds Tryd.pinned (.plain (OpenSpec.ofChange scriptJoinsSpec)) scriptJoinsCard

/-- THE TIED CARD OF 'ablautlaw25.ScriptRoads'. -/
def scriptRoadsCard : Claim7 := { stood := { row := scriptRoadsRow, standIns := [], harness := (true, "0aa6e5307e8aab7a4e5aef312807a6d28c8670990cdd3ff14ad842aeb73aad8f"), looks := false }, kinds := [], alts := [], laidByText := true, laidKinds := [.data, .pinned], laidTests := true, laidLooks := .later }
def ScriptRoadsCardSaid : Prop := Claim7.holds Tryd.pinned (.plain (OpenSpec.ofChange scriptRoadsSpec)) scriptRoadsCard

/-- THE TIED CARD OF 'ablautlaw25.ScriptReads'. -/
def scriptReadsCard : Claim7 := { stood := { row := scriptReadsRow, standIns := [], harness := (true, "0aa6e5307e8aab7a4e5aef312807a6d28c8670990cdd3ff14ad842aeb73aad8f"), looks := false }, kinds := [], alts := [], laidByText := true, laidKinds := [.data, .pinned], laidTests := true, laidLooks := .later }
def ScriptReadsCardSaid : Prop := Claim7.holds Tryd.pinned (.plain (OpenSpec.ofChange scriptReadsSpec)) scriptReadsCard

/-- THE TIED CARD OF 'ablautlaw25.ScriptReturns'. -/
def scriptReturnsCard : Claim7 := { stood := { row := scriptReturnsRow, standIns := [], harness := (true, "0aa6e5307e8aab7a4e5aef312807a6d28c8670990cdd3ff14ad842aeb73aad8f"), looks := false }, kinds := [], alts := [], laidByText := true, laidKinds := [.data, .pinned], laidTests := true, laidLooks := .later }
def ScriptReturnsCardSaid : Prop := Claim7.holds Tryd.pinned (.plain (OpenSpec.ofChange scriptReturnsSpec)) scriptReturnsCard

/-- THE SECOND FORM's CARD OF 'ablautlaw25.ScriptJoins'. -/
def scriptJoinsUptoCard : Claim7 := { stood := { row := scriptJoinsUptoRow, standIns := [], harness := (true, "0aa6e5307e8aab7a4e5aef312807a6d28c8670990cdd3ff14ad842aeb73aad8f"), looks := false }, kinds := [], alts := [], laidByText := true, laidKinds := [.data, .pinned], laidTests := true, laidLooks := .later }
def ScriptJoinsUptoCardSaid : Prop := Claim7.holds Tryd.pinned (.plain (OpenSpec.upto scriptJoinsSpec)) scriptJoinsUptoCard

/-- THE SECOND FORM's CARD OF 'ablautlaw25.ScriptRoads'. -/
def scriptRoadsUptoCard : Claim7 := { stood := { row := scriptRoadsUptoRow, standIns := [], harness := (true, "0aa6e5307e8aab7a4e5aef312807a6d28c8670990cdd3ff14ad842aeb73aad8f"), looks := false }, kinds := [], alts := [], laidByText := true, laidKinds := [.data, .pinned], laidTests := true, laidLooks := .later }
def ScriptRoadsUptoCardSaid : Prop := Claim7.holds Tryd.pinned (.plain (OpenSpec.upto scriptRoadsSpec)) scriptRoadsUptoCard

/-- THE SECOND FORM's CARD OF 'ablautlaw25.ScriptReads'. -/
def scriptReadsUptoCard : Claim7 := { stood := { row := scriptReadsUptoRow, standIns := [], harness := (true, "0aa6e5307e8aab7a4e5aef312807a6d28c8670990cdd3ff14ad842aeb73aad8f"), looks := false }, kinds := [], alts := [], laidByText := true, laidKinds := [.data, .pinned], laidTests := true, laidLooks := .later }
def ScriptReadsUptoCardSaid : Prop := Claim7.holds Tryd.pinned (.plain (OpenSpec.upto scriptReadsSpec)) scriptReadsUptoCard

/-- THE SECOND FORM's CARD OF 'ablautlaw25.ScriptReturns'. -/
def scriptReturnsUptoCard : Claim7 := { stood := { row := scriptReturnsUptoRow, standIns := [], harness := (true, "0aa6e5307e8aab7a4e5aef312807a6d28c8670990cdd3ff14ad842aeb73aad8f"), looks := false }, kinds := [], alts := [], laidByText := true, laidKinds := [.data, .pinned], laidTests := true, laidLooks := .later }
def ScriptReturnsUptoCardSaid : Prop := Claim7.holds Tryd.pinned (.plain (OpenSpec.upto scriptReturnsSpec)) scriptReturnsUptoCard
end Rows
end Go.Proofs.YtldlcejlfaogbaaDoor
