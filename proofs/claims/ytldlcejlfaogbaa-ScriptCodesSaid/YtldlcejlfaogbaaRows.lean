/-
  No cell of these rows narrows 'for every input' (looked for: loops, veiled, ifaces, maps, wideKeys, modest, calm, conditions, laid).
  DERIVED. THE GIVEN ROWS OF THIS SEAT. 3 by the template 'for every input the law returns true; each argument reads behind the call as it read before'; 0 by the template 'total and deterministic' (their statements: YtldlcejlfaogbaaTotals.lean).
  GIVEN WITH THE SEED: the statements are not yours to turn. If you find one false, say at which input.
  Laid BY PROGRAM, IN A SANDBOX (cutbox-rows.mjs): the forced cells as the released guide's own fill.sh prints them over the translation 18d9feb64bac011a… (all of the seat's roots in one cut). By AI agents, Wed Nov 11 2026. No macro, syntax, notation, axiom, sorry.
-/
import Derived.Test.YtldlcejlfaogbaaChecked
import GoSem.Claim
import GoSem.ClaimJoined
import GoSem.ClaimMapViews
import Derived.JoinedTies
import Derived.KernelRfl
namespace Go.Proofs.Ytldlcejlfaogbaa
/- THE CELL 'sum', in the pinned program and in every row, IS THE sha256 OF THE DUMP (.gsa) THAT YtldlcejlfaogbaaProg.lean LOADS. Nothing in Lean hashes anything: it is a label: what it is worth is what the hold of that sum in a sandbox is worth. -/
noncomputable def Try.pinned : Pinned := { name := "ytldlcejlfaogbaa", sum := "18d9feb64bac011a88ee7b0c8b1c1a39d6883a65c69b86cff685d64e947a8333", checked := Try.checked }
namespace Rows
def none {H : Type} : Left H := { results := [], args := [] }

/-- 'ablautlaw25.ScriptShifts': WHATEVER THE INPUT: true; the input reads as it did. -/
def scriptShiftsSpec : ChangeSpec := { name := "scriptShifts", fn := fun _ => fun
  | [d1, d2] => { results := [.lit (.bool true)], args := [d1, d2] }
  | _ => none }
def scriptShiftsRow : OpenClaim := { program := "ytldlcejlfaogbaa", sum := "18d9feb64bac011a88ee7b0c8b1c1a39d6883a65c69b86cff685d64e947a8333", func := "ablaut/ablautlaw25.ScriptShifts", spec := "scriptShifts", inPlace := ["internal/abi.NoEscape", "internal/bytealg.MakeNoZero"], unfollowed := true, recurses := true, apart := false }
def ScriptShiftsSaid : Prop := scriptShiftsRow.holds Try.pinned (OpenSpec.ofChange scriptShiftsSpec)

/-- ITS FALSE NEIGHBOUR: 'it returns false'. Refute it at one input. -/
def scriptShiftsWrong : ChangeSpec := { name := "scriptShifts", fn := fun _ => fun
  | [d1, d2] => { results := [.lit (.bool false)], args := [d1, d2] }
  | _ => none }
def ScriptShiftsWrongFalsely : Prop := scriptShiftsRow.holds Try.pinned (OpenSpec.ofChange scriptShiftsWrong)

/-- 'ablautlaw25.ScriptCodes': WHATEVER THE INPUT: true; the input reads as it did. -/
def scriptCodesSpec : ChangeSpec := { name := "scriptCodes", fn := fun _ => fun
  | [d] => { results := [.lit (.bool true)], args := [d] }
  | _ => none }
def scriptCodesRow : OpenClaim := { program := "ytldlcejlfaogbaa", sum := "18d9feb64bac011a88ee7b0c8b1c1a39d6883a65c69b86cff685d64e947a8333", func := "ablaut/ablautlaw25.ScriptCodes", spec := "scriptCodes", inPlace := ["internal/abi.NoEscape", "internal/bytealg.MakeNoZero"], unfollowed := true, recurses := true, apart := false }
def ScriptCodesSaid : Prop := scriptCodesRow.holds Try.pinned (OpenSpec.ofChange scriptCodesSpec)

/-- ITS FALSE NEIGHBOUR: 'it returns false'. Refute it at one input. -/
def scriptCodesWrong : ChangeSpec := { name := "scriptCodes", fn := fun _ => fun
  | [d] => { results := [.lit (.bool false)], args := [d] }
  | _ => none }
def ScriptCodesWrongFalsely : Prop := scriptCodesRow.holds Try.pinned (OpenSpec.ofChange scriptCodesWrong)

/-- 'ablautlaw25.ScriptCovers': WHATEVER THE INPUT: true; the input reads as it did. -/
def scriptCoversSpec : ChangeSpec := { name := "scriptCovers", fn := fun _ => fun
  | [d1, d2] => { results := [.lit (.bool true)], args := [d1, d2] }
  | _ => none }
def scriptCoversRow : OpenClaim := { program := "ytldlcejlfaogbaa", sum := "18d9feb64bac011a88ee7b0c8b1c1a39d6883a65c69b86cff685d64e947a8333", func := "ablaut/ablautlaw25.ScriptCovers", spec := "scriptCovers", inPlace := ["internal/abi.NoEscape", "internal/bytealg.MakeNoZero"], unfollowed := true, recurses := true, apart := false }
def ScriptCoversSaid : Prop := scriptCoversRow.holds Try.pinned (OpenSpec.ofChange scriptCoversSpec)

/-- ITS FALSE NEIGHBOUR: 'it returns false'. Refute it at one input. -/
def scriptCoversWrong : ChangeSpec := { name := "scriptCovers", fn := fun _ => fun
  | [d1, d2] => { results := [.lit (.bool false)], args := [d1, d2] }
  | _ => none }
def ScriptCoversWrongFalsely : Prop := scriptCoversRow.holds Try.pinned (OpenSpec.ofChange scriptCoversWrong)

/- THE SECOND FORM. 'bulk': how many values and letters a reading holds, each counted each time it is reached (what is shared counts as often as it is met; a slice's spare places count too). A statement '..UptoSaid' is the law's where the arguments, and the package variables that the reading takes, are together of bulk at most 1048576: NARROWER than '..Said'. Prove '..Said' where nothing that the law and all that it calls make is longer than what came in: it says more and counts as full. Else prove '..UptoSaid'. A law counts once. -/
mutual
def uptoBulk {H : Type} : DataW H → Nat
  | .lit (.string bytes) => bytes.length + 1
  | .lit _ => 1
  | .nil => 1
  | .ptr d => uptoBulk d + 1
  | .slice elems spare => uptoBulkAll elems + uptoBulkAll spare + 1
  | .agg parts => uptoBulkAll parts + 1
  | .iface _ d => uptoBulk d + 1
  | .map entries => uptoBulkEntries entries + 1
  | .held _ => 1
def uptoBulkAll {H : Type} : List (DataW H) → Nat
  | [] => 0
  | d :: r => uptoBulk d + uptoBulkAll r
def uptoBulkEntries {H : Type} : List (Lit × DataW H) → Nat
  | [] => 0
  | x :: r => uptoBulkEntry x + uptoBulkEntries r
def uptoBulkEntry {H : Type} : Lit × DataW H → Nat
  | (.string bytes, d) => bytes.length + uptoBulk d + 1
  | (_, d) => uptoBulk d + 1
 end
def uptoSmall : (H : Type) → List (DataW H) → Bool := fun _ ds => decide (uptoBulkAll ds ≤ 1048576)
def OpenSpec.upto (s : _root_.Go.ChangeSpec) : _root_.Go.OpenSpec := { _root_.Go.OpenSpec.ofChange s with cond := some uptoSmall }

/-- 'ablautlaw25.ScriptShifts', WHERE WHAT IT READS IS OF BULK AT MOST 1048576: true; the input reads as it did. -/
def scriptShiftsUptoRow : OpenClaim := { program := "ytldlcejlfaogbaa", sum := "18d9feb64bac011a88ee7b0c8b1c1a39d6883a65c69b86cff685d64e947a8333", func := "ablaut/ablautlaw25.ScriptShifts", spec := "scriptShifts", inPlace := ["internal/abi.NoEscape", "internal/bytealg.MakeNoZero"], unfollowed := true, recurses := true, apart := false, narrowed := true }
def ScriptShiftsUptoSaid : Prop := scriptShiftsUptoRow.holds Try.pinned (OpenSpec.upto scriptShiftsSpec)

/-- 'ablautlaw25.ScriptCodes', WHERE WHAT IT READS IS OF BULK AT MOST 1048576: true; the input reads as it did. -/
def scriptCodesUptoRow : OpenClaim := { program := "ytldlcejlfaogbaa", sum := "18d9feb64bac011a88ee7b0c8b1c1a39d6883a65c69b86cff685d64e947a8333", func := "ablaut/ablautlaw25.ScriptCodes", spec := "scriptCodes", inPlace := ["internal/abi.NoEscape", "internal/bytealg.MakeNoZero"], unfollowed := true, recurses := true, apart := false, narrowed := true }
def ScriptCodesUptoSaid : Prop := scriptCodesUptoRow.holds Try.pinned (OpenSpec.upto scriptCodesSpec)

/-- 'ablautlaw25.ScriptCovers', WHERE WHAT IT READS IS OF BULK AT MOST 1048576: true; the input reads as it did. -/
def scriptCoversUptoRow : OpenClaim := { program := "ytldlcejlfaogbaa", sum := "18d9feb64bac011a88ee7b0c8b1c1a39d6883a65c69b86cff685d64e947a8333", func := "ablaut/ablautlaw25.ScriptCovers", spec := "scriptCovers", inPlace := ["internal/abi.NoEscape", "internal/bytealg.MakeNoZero"], unfollowed := true, recurses := true, apart := false, narrowed := true }
def ScriptCoversUptoSaid : Prop := scriptCoversUptoRow.holds Try.pinned (OpenSpec.upto scriptCoversSpec)

end Rows
end Go.Proofs.Ytldlcejlfaogbaa
