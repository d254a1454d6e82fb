/- numbers of Ytapkbkniooleaaa -/
import Derived.Test.YtapkbkniooleaaaTkL
namespace Go.Proofs.Ytapkbkniooleaaa.Vs
set_option linter.unusedVariables false
set_option linter.unusedSimpArgs false
set_option maxRecDepth 100000
theorem ab39 (a b c d : Wd) : aBuilt Zs 39 [(0, encSS a), (1, encSS b), (2, encSS c), (3, encSS d)] = some [encSS a, encSS b, encSS c, encSS d] := by rfl
def arrH (σ : Heap) (c : Cut) : Heap := ((σ.new (.cells 24 (cellsC c))).new (.cells 39 [D.sl .nil 0 [], D.sl .nil 0 [], D.sl .nil 0 [], D.sl .nil 0 []])).set (σ.next + 1) (.cells 39 (cellsC c))
theorem arrH_get (σ : Heap) (c : Cut) : (arrH σ c).get (σ.next + 1) = some (.cells 39 (cellsC c)) := Heap.set_same _ _ _
theorem arrH_le {σ : Heap} (hc : Closed σ) (c : Cut) : HLe σ (arrH σ c) := HLe.set_out _ (((HLe.self_new _ hc).new' _ hc)) hc (Nat.le_succ _)
theorem arr_new (σ : Heap) (o a : AO) : ((σ.new o).new a).get (σ.next + 1) = some a := Heap.new_same (σ.new o) a
end Go.Proofs.Ytapkbkniooleaaa.Vs
