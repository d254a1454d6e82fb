/-
  NARROWER THAN 'FOR EVERY INPUT', by the rows' own cells (each row's printed sentence says how): ScriptNets: laid · ScriptReverses: laid · ScriptTexts: laid · ScriptBacks: laid · ScriptFound: laid.
  DERIVED. THE GIVEN ROWS OF THIS SEAT. 5 by the template 'for every input the law returns true; each argument reads behind the call as it read before'; 0 by the template 'total and deterministic' (their statements: YtldlcejlfaogbaaGreatDoorTotals.lean).
  GIVEN WITH THE SEED: the statements are not yours to turn. If you find one false, say at which input.
  Laid BY PROGRAM, IN A SANDBOX (cutbox-rows.mjs): the forced cells as the released guide's own fill.sh prints them over the translation ed8c1ed89df440d7… (all of the seat's roots in one cut). By AI agents, Wed Nov 11 2026. No macro, syntax, notation, axiom, sorry.
-/
import Derived.Test.YtldlcejlfaogbaaGreatDoorChecked
import GoSem.PinnedTables
import GoSem.Claim
import GoSem.ClaimJoined
import GoSem.ClaimMapViews
import Derived.JoinedTies
import Derived.KernelRfl
namespace Go.Proofs.YtldlcejlfaogbaaGreatDoor
/- THE CELL 'sum', in the pinned program and in every row, IS THE sha256 OF THE DUMP (.gsa) THAT YtldlcejlfaogbaaGreatDoorProg.lean LOADS. Nothing in Lean hashes anything: it is a label: what it is worth is what the hold of that sum in a sandbox is worth. -/
noncomputable def Tryz.pinned : Pinned := { name := "ytldlcejlfaogbaagreatdoor", sum := "ed8c1ed89df440d7cc003b2d2fa04d10193208937da4058f0ed67db71cc1cecb", checked := Tryz.checked }
namespace Rows
def none {H : Type} : Left H := { results := [], args := [] }

/- WHAT THE LISTED PACKAGE-LEVEL VARIABLES READ AS WHEN THE CALL BEGINS. Each datum BY PROGRAM (the guide's laid-datum.mjs) off the statement by which the dump's own 'gosem.cut.vars' lays the variable. In a bare row this is a premise. The card (YtldlcejlfaogbaaGreatDoorCards.lean) ties it to the program's text. -/
def laid_unicode_utf8_acceptRanges {H : Type} : DataW H := .agg [.agg [.lit (.int .u8 128), .lit (.int .u8 191)], .agg [.lit (.int .u8 160), .lit (.int .u8 191)], .agg [.lit (.int .u8 128), .lit (.int .u8 159)], .agg [.lit (.int .u8 144), .lit (.int .u8 191)], .agg [.lit (.int .u8 128), .lit (.int .u8 143)], .agg [.lit (.int .u8 0), .lit (.int .u8 0)], .agg [.lit (.int .u8 0), .lit (.int .u8 0)], .agg [.lit (.int .u8 0), .lit (.int .u8 0)], .agg [.lit (.int .u8 0), .lit (.int .u8 0)], .agg [.lit (.int .u8 0), .lit (.int .u8 0)], .agg [.lit (.int .u8 0), .lit (.int .u8 0)], .agg [.lit (.int .u8 0), .lit (.int .u8 0)], .agg [.lit (.int .u8 0), .lit (.int .u8 0)], .agg [.lit (.int .u8 0), .lit (.int .u8 0)], .agg [.lit (.int .u8 0), .lit (.int .u8 0)], .agg [.lit (.int .u8 0), .lit (.int .u8 0)]]
/-- One of Go's own tables, pinned by name: the form's constant. -/
def laid_unicode_utf8_first : DataW Unit := Go.Pinned.utf8First

/-- 'ablautlaw25.ScriptNets': WHATEVER THE INPUT: true; the input reads as it did. -/
def scriptNetsSpec : ChangeSpec := { name := "scriptNets", fn := fun _ => fun
  | [d1, d2, d3] => { results := [.lit (.bool true)], args := [d1, d2, d3] }
  | _ => none }
def scriptNetsRow : OpenClaim := { program := "ytldlcejlfaogbaagreatdoor", sum := "ed8c1ed89df440d7cc003b2d2fa04d10193208937da4058f0ed67db71cc1cecb", func := "ablaut/ablautlaw25.ScriptNets", spec := "scriptNets", inPlace := ["internal/abi.NoEscape", "internal/bytealg.MakeNoZero", "internal/bytealg.CountString", "internal/bytealg.IndexByteString", "internal/bytealg.IndexString"], unfollowed := true, recurses := true, named := ["unicode/utf8.first", "unicode/utf8.acceptRanges", "internal/bytealg.MaxLen"], plainKeys := false, apart := false, laid := [("unicode/utf8.acceptRanges", laid_unicode_utf8_acceptRanges), ("unicode/utf8.first", laid_unicode_utf8_first)] }
def ScriptNetsSaid : Prop := scriptNetsRow.holds Tryz.pinned (OpenSpec.ofChange scriptNetsSpec)

/-- ITS FALSE NEIGHBOUR: 'it returns false'. Refute it at one input. -/
def scriptNetsWrong : ChangeSpec := { name := "scriptNets", fn := fun _ => fun
  | [d1, d2, d3] => { results := [.lit (.bool false)], args := [d1, d2, d3] }
  | _ => none }
def ScriptNetsWrongFalsely : Prop := scriptNetsRow.holds Tryz.pinned (OpenSpec.ofChange scriptNetsWrong)

/-- 'ablautlaw25.ScriptReverses': WHATEVER THE INPUT: true; the input reads as it did. -/
def scriptReversesSpec : ChangeSpec := { name := "scriptReverses", fn := fun _ => fun
  | [d] => { results := [.lit (.bool true)], args := [d] }
  | _ => none }
def scriptReversesRow : OpenClaim := { program := "ytldlcejlfaogbaagreatdoor", sum := "ed8c1ed89df440d7cc003b2d2fa04d10193208937da4058f0ed67db71cc1cecb", func := "ablaut/ablautlaw25.ScriptReverses", spec := "scriptReverses", inPlace := ["internal/abi.NoEscape", "internal/bytealg.MakeNoZero", "internal/bytealg.CountString", "internal/bytealg.IndexByteString", "internal/bytealg.IndexString"], unfollowed := true, recurses := true, named := ["unicode/utf8.first", "unicode/utf8.acceptRanges", "internal/bytealg.MaxLen"], plainKeys := false, apart := false, laid := [("unicode/utf8.acceptRanges", laid_unicode_utf8_acceptRanges), ("unicode/utf8.first", laid_unicode_utf8_first)] }
def ScriptReversesSaid : Prop := scriptReversesRow.holds Tryz.pinned (OpenSpec.ofChange scriptReversesSpec)

/-- ITS FALSE NEIGHBOUR: 'it returns false'. Refute it at one input. -/
def scriptReversesWrong : ChangeSpec := { name := "scriptReverses", fn := fun _ => fun
  | [d] => { results := [.lit (.bool false)], args := [d] }
  | _ => none }
def ScriptReversesWrongFalsely : Prop := scriptReversesRow.holds Tryz.pinned (OpenSpec.ofChange scriptReversesWrong)

/-- 'ablautlaw25.ScriptTexts': WHATEVER THE INPUT: true; the input reads as it did. -/
def scriptTextsSpec : ChangeSpec := { name := "scriptTexts", fn := fun _ => fun
  | [d] => { results := [.lit (.bool true)], args := [d] }
  | _ => none }
def scriptTextsRow : OpenClaim := { program := "ytldlcejlfaogbaagreatdoor", sum := "ed8c1ed89df440d7cc003b2d2fa04d10193208937da4058f0ed67db71cc1cecb", func := "ablaut/ablautlaw25.ScriptTexts", spec := "scriptTexts", inPlace := ["internal/abi.NoEscape", "internal/bytealg.MakeNoZero", "internal/bytealg.IndexByteString", "internal/bytealg.IndexString", "internal/bytealg.CountString"], unfollowed := true, recurses := true, named := ["internal/bytealg.MaxLen", "unicode/utf8.first", "unicode/utf8.acceptRanges"], plainKeys := false, apart := false, laid := [("unicode/utf8.acceptRanges", laid_unicode_utf8_acceptRanges), ("unicode/utf8.first", laid_unicode_utf8_first)] }
def ScriptTextsSaid : Prop := scriptTextsRow.holds Tryz.pinned (OpenSpec.ofChange scriptTextsSpec)

/-- ITS FALSE NEIGHBOUR: 'it returns false'. Refute it at one input. -/
def scriptTextsWrong : ChangeSpec := { name := "scriptTexts", fn := fun _ => fun
  | [d] => { results := [.lit (.bool false)], args := [d] }
  | _ => none }
def ScriptTextsWrongFalsely : Prop := scriptTextsRow.holds Tryz.pinned (OpenSpec.ofChange scriptTextsWrong)

/-- 'ablautlaw25.ScriptBacks': WHATEVER THE INPUT: true; the input reads as it did. -/
def scriptBacksSpec : ChangeSpec := { name := "scriptBacks", fn := fun _ => fun
  | [d1, d2, d3] => { results := [.lit (.bool true)], args := [d1, d2, d3] }
  | _ => none }
def scriptBacksRow : OpenClaim := { program := "ytldlcejlfaogbaagreatdoor", sum := "ed8c1ed89df440d7cc003b2d2fa04d10193208937da4058f0ed67db71cc1cecb", func := "ablaut/ablautlaw25.ScriptBacks", spec := "scriptBacks", inPlace := ["internal/abi.NoEscape", "internal/bytealg.MakeNoZero", "internal/bytealg.CountString", "internal/bytealg.IndexByteString", "internal/bytealg.IndexString"], unfollowed := true, recurses := true, named := ["unicode/utf8.first", "unicode/utf8.acceptRanges", "internal/bytealg.MaxLen"], plainKeys := false, apart := false, laid := [("unicode/utf8.acceptRanges", laid_unicode_utf8_acceptRanges), ("unicode/utf8.first", laid_unicode_utf8_first)] }
def ScriptBacksSaid : Prop := scriptBacksRow.holds Tryz.pinned (OpenSpec.ofChange scriptBacksSpec)

/-- ITS FALSE NEIGHBOUR: 'it returns false'. Refute it at one input. -/
def scriptBacksWrong : ChangeSpec := { name := "scriptBacks", fn := fun _ => fun
  | [d1, d2, d3] => { results := [.lit (.bool false)], args := [d1, d2, d3] }
  | _ => none }
def ScriptBacksWrongFalsely : Prop := scriptBacksRow.holds Tryz.pinned (OpenSpec.ofChange scriptBacksWrong)

/-- 'ablautlaw25.ScriptFound': WHATEVER THE INPUT: true; the input reads as it did. -/
def scriptFoundSpec : ChangeSpec := { name := "scriptFound", fn := fun _ => fun
  | [d1, d2] => { results := [.lit (.bool true)], args := [d1, d2] }
  | _ => none }
def scriptFoundRow : OpenClaim := { program := "ytldlcejlfaogbaagreatdoor", sum := "ed8c1ed89df440d7cc003b2d2fa04d10193208937da4058f0ed67db71cc1cecb", func := "ablaut/ablautlaw25.ScriptFound", spec := "scriptFound", inPlace := ["internal/abi.NoEscape", "internal/bytealg.MakeNoZero", "internal/bytealg.CountString", "internal/bytealg.IndexByteString", "internal/bytealg.IndexString"], unfollowed := true, recurses := true, named := ["unicode/utf8.first", "unicode/utf8.acceptRanges", "internal/bytealg.MaxLen"], plainKeys := false, apart := false, laid := [("unicode/utf8.acceptRanges", laid_unicode_utf8_acceptRanges), ("unicode/utf8.first", laid_unicode_utf8_first)] }
def ScriptFoundSaid : Prop := scriptFoundRow.holds Tryz.pinned (OpenSpec.ofChange scriptFoundSpec)

/-- ITS FALSE NEIGHBOUR: 'it returns false'. Refute it at one input. -/
def scriptFoundWrong : ChangeSpec := { name := "scriptFound", fn := fun _ => fun
  | [d1, d2] => { results := [.lit (.bool false)], args := [d1, d2] }
  | _ => none }
def ScriptFoundWrongFalsely : Prop := scriptFoundRow.holds Tryz.pinned (OpenSpec.ofChange scriptFoundWrong)

/- THE SECOND FORM. 'bulk': how many values and letters a reading holds, each counted each time it is reached (what is shared counts as often as it is met; a slice's spare places count too). A statement '..UptoSaid' is the law's where the arguments, and the package variables that the reading takes, are together of bulk at most 1048576: NARROWER than '..Said'. Prove '..Said' where nothing that the law and all that it calls make is longer than what came in: it says more and counts as full. Else prove '..UptoSaid'. A law counts once. -/
mutual
def uptoBulk {H : Type} : DataW H → Nat
  | .lit (.string bytes) => bytes.length + 1
  | .lit _ => 1
  | .nil => 1
  | .ptr d => uptoBulk d + 1
  | .slice elems spare => uptoBulkAll elems + uptoBulkAll spare + 1
  | .agg parts => uptoBulkAll parts + 1
  | .iface _ d => uptoBulk d + 1
  | .map entries => uptoBulkEntries entries + 1
  | .held _ => 1
def uptoBulkAll {H : Type} : List (DataW H) → Nat
  | [] => 0
  | d :: r => uptoBulk d + uptoBulkAll r
def uptoBulkEntries {H : Type} : List (Lit × DataW H) → Nat
  | [] => 0
  | x :: r => uptoBulkEntry x + uptoBulkEntries r
def uptoBulkEntry {H : Type} : Lit × DataW H → Nat
  | (.string bytes, d) => bytes.length + uptoBulk d + 1
  | (_, d) => uptoBulk d + 1
 end
def uptoSmall : (H : Type) → List (DataW H) → Bool := fun _ ds => decide (uptoBulkAll ds ≤ 1048576)
def OpenSpec.upto (s : _root_.Go.ChangeSpec) : _root_.Go.OpenSpec := { _root_.Go.OpenSpec.ofChange s with cond := some uptoSmall }

/-- 'ablautlaw25.ScriptNets', WHERE WHAT IT READS IS OF BULK AT MOST 1048576: true; the input reads as it did. -/
def scriptNetsUptoRow : OpenClaim := { program := "ytldlcejlfaogbaagreatdoor", sum := "ed8c1ed89df440d7cc003b2d2fa04d10193208937da4058f0ed67db71cc1cecb", func := "ablaut/ablautlaw25.ScriptNets", spec := "scriptNets", inPlace := ["internal/abi.NoEscape", "internal/bytealg.MakeNoZero", "internal/bytealg.CountString", "internal/bytealg.IndexByteString", "internal/bytealg.IndexString"], unfollowed := true, recurses := true, named := ["unicode/utf8.first", "unicode/utf8.acceptRanges", "internal/bytealg.MaxLen"], plainKeys := false, apart := false, laid := [("unicode/utf8.acceptRanges", laid_unicode_utf8_acceptRanges), ("unicode/utf8.first", laid_unicode_utf8_first)], narrowed := true }
def ScriptNetsUptoSaid : Prop := scriptNetsUptoRow.holds Tryz.pinned (OpenSpec.upto scriptNetsSpec)

/-- 'ablautlaw25.ScriptReverses', WHERE WHAT IT READS IS OF BULK AT MOST 1048576: true; the input reads as it did. -/
def scriptReversesUptoRow : OpenClaim := { program := "ytldlcejlfaogbaagreatdoor", sum := "ed8c1ed89df440d7cc003b2d2fa04d10193208937da4058f0ed67db71cc1cecb", func := "ablaut/ablautlaw25.ScriptReverses", spec := "scriptReverses", inPlace := ["internal/abi.NoEscape", "internal/bytealg.MakeNoZero", "internal/bytealg.CountString", "internal/bytealg.IndexByteString", "internal/bytealg.IndexString"], unfollowed := true, recurses := true, named := ["unicode/utf8.first", "unicode/utf8.acceptRanges", "internal/bytealg.MaxLen"], plainKeys := false, apart := false, laid := [("unicode/utf8.acceptRanges", laid_unicode_utf8_acceptRanges), ("unicode/utf8.first", laid_unicode_utf8_first)], narrowed := true }
def ScriptReversesUptoSaid : Prop := scriptReversesUptoRow.holds Tryz.pinned (OpenSpec.upto scriptReversesSpec)

/-- 'ablautlaw25.ScriptTexts', WHERE WHAT IT READS IS OF BULK AT MOST 1048576: true; the input reads as it did. -/
def scriptTextsUptoRow : OpenClaim := { program := "ytldlcejlfaogbaagreatdoor", sum := "ed8c1ed89df440d7cc003b2d2fa04d10193208937da4058f0ed67db71cc1cecb", func := "ablaut/ablautlaw25.ScriptTexts", spec := "scriptTexts", inPlace := ["internal/abi.NoEscape", "internal/bytealg.MakeNoZero", "internal/bytealg.IndexByteString", "internal/bytealg.IndexString", "internal/bytealg.CountString"], unfollowed := true, recurses := true, named := ["internal/bytealg.MaxLen", "unicode/utf8.first", "unicode/utf8.acceptRanges"], plainKeys := false, apart := false, laid := [("unicode/utf8.acceptRanges", laid_unicode_utf8_acceptRanges), ("unicode/utf8.first", laid_unicode_utf8_first)], narrowed := true }
def ScriptTextsUptoSaid : Prop := scriptTextsUptoRow.holds Tryz.pinned (OpenSpec.upto scriptTextsSpec)

/-- 'ablautlaw25.ScriptBacks', WHERE WHAT IT READS IS OF BULK AT MOST 1048576: true; the input reads as it did. -/
def scriptBacksUptoRow : OpenClaim := { program := "ytldlcejlfaogbaagreatdoor", sum := "ed8c1ed89df440d7cc003b2d2fa04d10193208937da4058f0ed67db71cc1cecb", func := "ablaut/ablautlaw25.ScriptBacks", spec := "scriptBacks", inPlace := ["internal/abi.NoEscape", "internal/bytealg.MakeNoZero", "internal/bytealg.CountString", "internal/bytealg.IndexByteString", "internal/bytealg.IndexString"], unfollowed := true, recurses := true, named := ["unicode/utf8.first", "unicode/utf8.acceptRanges", "internal/bytealg.MaxLen"], plainKeys := false, apart := false, laid := [("unicode/utf8.acceptRanges", laid_unicode_utf8_acceptRanges), ("unicode/utf8.first", laid_unicode_utf8_first)], narrowed := true }
def ScriptBacksUptoSaid : Prop := scriptBacksUptoRow.holds Tryz.pinned (OpenSpec.upto scriptBacksSpec)

/-- 'ablautlaw25.ScriptFound', WHERE WHAT IT READS IS OF BULK AT MOST 1048576: true; the input reads as it did. -/
def scriptFoundUptoRow : OpenClaim := { program := "ytldlcejlfaogbaagreatdoor", sum := "ed8c1ed89df440d7cc003b2d2fa04d10193208937da4058f0ed67db71cc1cecb", func := "ablaut/ablautlaw25.ScriptFound", spec := "scriptFound", inPlace := ["internal/abi.NoEscape", "internal/bytealg.MakeNoZero", "internal/bytealg.CountString", "internal/bytealg.IndexByteString", "internal/bytealg.IndexString"], unfollowed := true, recurses := true, named := ["unicode/utf8.first", "unicode/utf8.acceptRanges", "internal/bytealg.MaxLen"], plainKeys := false, apart := false, laid := [("unicode/utf8.acceptRanges", laid_unicode_utf8_acceptRanges), ("unicode/utf8.first", laid_unicode_utf8_first)], narrowed := true }
def ScriptFoundUptoSaid : Prop := scriptFoundUptoRow.holds Tryz.pinned (OpenSpec.upto scriptFoundSpec)

end Rows
end Go.Proofs.YtldlcejlfaogbaaGreatDoor
