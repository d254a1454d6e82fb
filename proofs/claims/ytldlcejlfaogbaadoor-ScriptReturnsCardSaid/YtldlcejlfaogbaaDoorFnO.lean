/- Words joined by their numbers; the reference's search for the shortest word. -/
import Derived.Test.YtldlcejlfaogbaaDoorCodeA
import Derived.Test.YtldlcejlfaogbaaDoorDmLib2
namespace Go.Proofs.YtldlcejlfaogbaaDoor.Vs
set_option linter.unusedVariables false
set_option linter.unusedSimpArgs false
set_option maxRecDepth 20000

def restsD (B : Bl) : List D := B.map fun p => encSS p.1
theorem restsD_len (B : Bl) : (restsD B).length = B.length := by simp [restsD]
def leastD (B : Bl) : List D := B.map fun p => .int .i64 (p.2 : Int)
theorem leastD_len (B : Bl) : (leastD B).length = B.length := by simp [leastD]
/-- The reference's table of rests, in the heap. -/
def BH (l : List Wd) (q : Nat) (B : Bl) (s : Heap) : Prop :=
  ∃ d1 d2, s.get q = some (.cells 65 [encLL l, d1, d2]) ∧ q < s.next ∧ ((B = [] ∧ d1 = .sl .nil 0 [] ∧ d2 = .sl .nil 0 []) ∨
    B ≠ [] ∧ ∃ r1 r2, q < r1 ∧ q < r2 ∧ r1 ≠ r2 ∧ r1 < s.next ∧ r2 < s.next ∧ d1 = .sl (.tip r1 1) B.length (restsD B) ∧ d2 = .row r2 0 B.length none 1 ∧ s.get r1 = some (.tip 23 B.length) ∧ s.get r2 = some (.cells 3 (leastD B)))
theorem BH.d1 {l : List Wd} {q : Nat} {B : Bl} {s : Heap} (h : BH l q B s) : ∃ o1 d2, s.get q = some (.cells 65 [encLL l, .sl o1 B.length (restsD B), d2]) ∧ (B ≠ [] → ∃ r1 r2, q < r1 ∧ q < r2 ∧ r1 ≠ r2 ∧ r1 < s.next ∧ r2 < s.next ∧ o1 = .tip r1 1 ∧ d2 = .row r2 0 B.length none 1 ∧ s.get r1 = some (.tip 23 B.length) ∧ s.get r2 = some (.cells 3 (leastD B))) ∧ (B = [] → o1 = .nil ∧ d2 = .sl .nil 0 []) ∧ q < s.next := by
  obtain ⟨d1, d2, h1, h2, h3⟩ := h
  rcases h3 with ⟨rfl, rfl, rfl⟩ | ⟨h0, r1, r2, a, b, c, d, e, rfl, rfl, f, g⟩
  · exact ⟨_, _, h1, fun h => absurd rfl h, fun _ => ⟨rfl, rfl⟩, h2⟩
  · exact ⟨_, _, h1, fun _ => ⟨r1, r2, a, b, c, d, e, rfl, rfl, f, g⟩, fun h => absurd h h0, h2⟩

end Go.Proofs.YtldlcejlfaogbaaDoor.Vs
