/-
  No cell of these rows narrows 'for every input' (looked for: loops, veiled, ifaces, maps, wideKeys, modest, calm, conditions, laid).
  DERIVED. THE GIVEN ROWS OF THIS SEAT. 4 by the template 'for every input the law returns true; each argument reads behind the call as it read before'; 0 by the template 'total and deterministic' (their statements: YthchlpikcpidaaaTotals.lean).
  GIVEN WITH THE SEED: the statements are not yours to turn. If you find one false, say at which input.
  Laid BY PROGRAM, IN A SANDBOX (cutbox-rows.mjs): the forced cells as the released guide's own fill.sh prints them over the translation 05e7acedf59448ec… (all of the seat's roots in one cut). By AI agents, Wed Nov 11 2026. No macro, syntax, notation, axiom, sorry.
-/
import Derived.Test.YthchlpikcpidaaaChecked
import GoSem.Claim
import GoSem.ClaimJoined
import GoSem.ClaimMapViews
import Derived.JoinedTies
import Derived.KernelRfl
namespace Go.Proofs.Ythchlpikcpidaaa
/- THE CELL 'sum', in the pinned program and in every row, IS THE sha256 OF THE DUMP (.gsa) THAT YthchlpikcpidaaaProg.lean LOADS. Nothing in Lean hashes anything: it is a label: what it is worth is what the hold of that sum in a sandbox is worth. -/
noncomputable def Try.pinned : Pinned := { name := "ythchlpikcpidaaa", sum := "05e7acedf59448eca83e6e822344539e51562e5f5f0eccc2190652acdf380092", checked := Try.checked }
namespace Rows
def none {H : Type} : Left H := { results := [], args := [] }

/-- 'ablautlaw18.GuessChances': WHATEVER THE INPUT: true; the input reads as it did. -/
def guessChancesSpec : ChangeSpec := { name := "guessChances", fn := fun _ => fun
  | [d1, d2, d3] => { results := [.lit (.bool true)], args := [d1, d2, d3] }
  | _ => none }
def guessChancesRow : OpenClaim := { program := "ythchlpikcpidaaa", sum := "05e7acedf59448eca83e6e822344539e51562e5f5f0eccc2190652acdf380092", func := "ablaut/ablautlaw18.GuessChances", spec := "guessChances", inPlace := ["internal/abi.NoEscape", "internal/bytealg.MakeNoZero"], unfollowed := true, recurses := true, plainKeys := false, apart := false }
def GuessChancesSaid : Prop := guessChancesRow.holds Try.pinned (OpenSpec.ofChange guessChancesSpec)

/-- ITS FALSE NEIGHBOUR: 'it returns false'. Refute it at one input. -/
def guessChancesWrong : ChangeSpec := { name := "guessChances", fn := fun _ => fun
  | [d1, d2, d3] => { results := [.lit (.bool false)], args := [d1, d2, d3] }
  | _ => none }
def GuessChancesWrongFalsely : Prop := guessChancesRow.holds Try.pinned (OpenSpec.ofChange guessChancesWrong)

/-- 'ablautlaw18.GuessSums': WHATEVER THE INPUT: true; the input reads as it did. -/
def guessSumsSpec : ChangeSpec := { name := "guessSums", fn := fun _ => fun
  | [d1, d2] => { results := [.lit (.bool true)], args := [d1, d2] }
  | _ => none }
def guessSumsRow : OpenClaim := { program := "ythchlpikcpidaaa", sum := "05e7acedf59448eca83e6e822344539e51562e5f5f0eccc2190652acdf380092", func := "ablaut/ablautlaw18.GuessSums", spec := "guessSums", inPlace := ["internal/abi.NoEscape", "internal/bytealg.MakeNoZero"], unfollowed := true, recurses := true, plainKeys := false, apart := false }
def GuessSumsSaid : Prop := guessSumsRow.holds Try.pinned (OpenSpec.ofChange guessSumsSpec)

/-- ITS FALSE NEIGHBOUR: 'it returns false'. Refute it at one input. -/
def guessSumsWrong : ChangeSpec := { name := "guessSums", fn := fun _ => fun
  | [d1, d2] => { results := [.lit (.bool false)], args := [d1, d2] }
  | _ => none }
def GuessSumsWrongFalsely : Prop := guessSumsRow.holds Try.pinned (OpenSpec.ofChange guessSumsWrong)

/-- 'ablautlaw18.GuessRanks': WHATEVER THE INPUT: true; the input reads as it did. -/
def guessRanksSpec : ChangeSpec := { name := "guessRanks", fn := fun _ => fun
  | [d1, d2] => { results := [.lit (.bool true)], args := [d1, d2] }
  | _ => none }
def guessRanksRow : OpenClaim := { program := "ythchlpikcpidaaa", sum := "05e7acedf59448eca83e6e822344539e51562e5f5f0eccc2190652acdf380092", func := "ablaut/ablautlaw18.GuessRanks", spec := "guessRanks", inPlace := ["internal/abi.NoEscape", "internal/bytealg.MakeNoZero"], unfollowed := true, recurses := true, plainKeys := false, apart := false }
def GuessRanksSaid : Prop := guessRanksRow.holds Try.pinned (OpenSpec.ofChange guessRanksSpec)

/-- ITS FALSE NEIGHBOUR: 'it returns false'. Refute it at one input. -/
def guessRanksWrong : ChangeSpec := { name := "guessRanks", fn := fun _ => fun
  | [d1, d2] => { results := [.lit (.bool false)], args := [d1, d2] }
  | _ => none }
def GuessRanksWrongFalsely : Prop := guessRanksRow.holds Try.pinned (OpenSpec.ofChange guessRanksWrong)

/-- 'ablautlaw18.GuessBest': WHATEVER THE INPUT: true; the input reads as it did. -/
def guessBestSpec : ChangeSpec := { name := "guessBest", fn := fun _ => fun
  | [d1, d2] => { results := [.lit (.bool true)], args := [d1, d2] }
  | _ => none }
def guessBestRow : OpenClaim := { program := "ythchlpikcpidaaa", sum := "05e7acedf59448eca83e6e822344539e51562e5f5f0eccc2190652acdf380092", func := "ablaut/ablautlaw18.GuessBest", spec := "guessBest", inPlace := ["internal/abi.NoEscape", "internal/bytealg.MakeNoZero"], unfollowed := true, recurses := true, plainKeys := false, apart := false }
def GuessBestSaid : Prop := guessBestRow.holds Try.pinned (OpenSpec.ofChange guessBestSpec)

/-- ITS FALSE NEIGHBOUR: 'it returns false'. Refute it at one input. -/
def guessBestWrong : ChangeSpec := { name := "guessBest", fn := fun _ => fun
  | [d1, d2] => { results := [.lit (.bool false)], args := [d1, d2] }
  | _ => none }
def GuessBestWrongFalsely : Prop := guessBestRow.holds Try.pinned (OpenSpec.ofChange guessBestWrong)

/- THE SECOND FORM. 'bulk': how many values and letters a reading holds, each counted each time it is reached (what is shared counts as often as it is met; a slice's spare places count too). A statement '..UptoSaid' is the law's where the arguments, and the package variables that the reading takes, are together of bulk at most 1048576: NARROWER than '..Said'. Prove '..Said' where nothing that the law and all that it calls make is longer than what came in: it says more and counts as full. Else prove '..UptoSaid'. A law counts once. -/
mutual
def uptoBulk {H : Type} : DataW H → Nat
  | .lit (.string bytes) => bytes.length + 1
  | .lit _ => 1
  | .nil => 1
  | .ptr d => uptoBulk d + 1
  | .slice elems spare => uptoBulkAll elems + uptoBulkAll spare + 1
  | .agg parts => uptoBulkAll parts + 1
  | .iface _ d => uptoBulk d + 1
  | .map entries => uptoBulkEntries entries + 1
  | .held _ => 1
def uptoBulkAll {H : Type} : List (DataW H) → Nat
  | [] => 0
  | d :: r => uptoBulk d + uptoBulkAll r
def uptoBulkEntries {H : Type} : List (Lit × DataW H) → Nat
  | [] => 0
  | x :: r => uptoBulkEntry x + uptoBulkEntries r
def uptoBulkEntry {H : Type} : Lit × DataW H → Nat
  | (.string bytes, d) => bytes.length + uptoBulk d + 1
  | (_, d) => uptoBulk d + 1
 end
def uptoSmall : (H : Type) → List (DataW H) → Bool := fun _ ds => decide (uptoBulkAll ds ≤ 1048576)
def OpenSpec.upto (s : _root_.Go.ChangeSpec) : _root_.Go.OpenSpec := { _root_.Go.OpenSpec.ofChange s with cond := some uptoSmall }

/-- 'ablautlaw18.GuessChances', WHERE WHAT IT READS IS OF BULK AT MOST 1048576: true; the input reads as it did. -/
def guessChancesUptoRow : OpenClaim := { program := "ythchlpikcpidaaa", sum := "05e7acedf59448eca83e6e822344539e51562e5f5f0eccc2190652acdf380092", func := "ablaut/ablautlaw18.GuessChances", spec := "guessChances", inPlace := ["internal/abi.NoEscape", "internal/bytealg.MakeNoZero"], unfollowed := true, recurses := true, plainKeys := false, apart := false, narrowed := true }
def GuessChancesUptoSaid : Prop := guessChancesUptoRow.holds Try.pinned (OpenSpec.upto guessChancesSpec)

/-- 'ablautlaw18.GuessSums', WHERE WHAT IT READS IS OF BULK AT MOST 1048576: true; the input reads as it did. -/
def guessSumsUptoRow : OpenClaim := { program := "ythchlpikcpidaaa", sum := "05e7acedf59448eca83e6e822344539e51562e5f5f0eccc2190652acdf380092", func := "ablaut/ablautlaw18.GuessSums", spec := "guessSums", inPlace := ["internal/abi.NoEscape", "internal/bytealg.MakeNoZero"], unfollowed := true, recurses := true, plainKeys := false, apart := false, narrowed := true }
def GuessSumsUptoSaid : Prop := guessSumsUptoRow.holds Try.pinned (OpenSpec.upto guessSumsSpec)

/-- 'ablautlaw18.GuessRanks', WHERE WHAT IT READS IS OF BULK AT MOST 1048576: true; the input reads as it did. -/
def guessRanksUptoRow : OpenClaim := { program := "ythchlpikcpidaaa", sum := "05e7acedf59448eca83e6e822344539e51562e5f5f0eccc2190652acdf380092", func := "ablaut/ablautlaw18.GuessRanks", spec := "guessRanks", inPlace := ["internal/abi.NoEscape", "internal/bytealg.MakeNoZero"], unfollowed := true, recurses := true, plainKeys := false, apart := false, narrowed := true }
def GuessRanksUptoSaid : Prop := guessRanksUptoRow.holds Try.pinned (OpenSpec.upto guessRanksSpec)

/-- 'ablautlaw18.GuessBest', WHERE WHAT IT READS IS OF BULK AT MOST 1048576: true; the input reads as it did. -/
def guessBestUptoRow : OpenClaim := { program := "ythchlpikcpidaaa", sum := "05e7acedf59448eca83e6e822344539e51562e5f5f0eccc2190652acdf380092", func := "ablaut/ablautlaw18.GuessBest", spec := "guessBest", inPlace := ["internal/abi.NoEscape", "internal/bytealg.MakeNoZero"], unfollowed := true, recurses := true, plainKeys := false, apart := false, narrowed := true }
def GuessBestUptoSaid : Prop := guessBestUptoRow.holds Try.pinned (OpenSpec.upto guessBestSpec)

end Rows
end Go.Proofs.Ythchlpikcpidaaa
