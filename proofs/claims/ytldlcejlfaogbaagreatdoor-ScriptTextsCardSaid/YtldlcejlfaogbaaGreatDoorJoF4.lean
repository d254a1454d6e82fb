/- numbers of YtldlcejlfaogbaaDoor -/
import Derived.Test.YtldlcejlfaogbaaGreatDoorJoF3
import Derived.Test.YtldlcejlfaogbaaGreatDoorDmTwo
namespace Go.Proofs.YtldlcejlfaogbaaGreatDoor.Vs
set_option linter.unusedVariables false
set_option linter.unusedSimpArgs false
set_option maxRecDepth 20000
theorem rowsD_append : ∀ a b : List Sh, rowsD (a ++ b) = rowsD a ++ rowsD b
  | [], b => rfl
  | r :: a, b => by simp only [List.cons_append, rowsD, rowsD_append a b]
theorem bel_rowsD {N : Nat} : ∀ t : List Sh, ∀ d ∈ rowsD t, Bel N d
  | [], d, h => by cases h
  | r :: t, d, h => by
    simp only [rowsD, List.mem_cons] at h
    rcases h with rfl | rfl | h
    · exact .no (bel_strs _)
    · exact .no (bel_strs _)
    · exact bel_rowsD t d h
theorem told_nilT {σ τ : Heap} : Told σ τ (.sl .nil 0 []) (encT []) := .sl .nil .no 0 [] [] (.inl rfl) rfl (fun i h => by cases h)
theorem ab46 (o o2 : Own) (n n2 : Nat) (cs cs2 : List D) : aBuilt Zs 67 [(0, .sl o n cs), (1, .sl o2 n2 cs2)] = some [.sl o n cs, .sl o2 n2 cs2] := by rfl
theorem bs22 (o o2 : Own) (n n2 nx : Nat) (cs cs2 : List D) : buildSliceR Zs 0 22 1 [(0, .agg [.sl o n cs, .sl o2 n2 cs2])] nx = some (.sl .full 1 [.sl o n cs, .sl o2 n2 cs2], .keep) := by rfl
end Go.Proofs.YtldlcejlfaogbaaGreatDoor.Vs
