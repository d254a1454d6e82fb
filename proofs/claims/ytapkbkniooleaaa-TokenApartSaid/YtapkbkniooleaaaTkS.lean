/- numbers of Ytapkbkniooleaaa -/
import Derived.Test.YtapkbkniooleaaaTkR
namespace Go.Proofs.Ytapkbkniooleaaa.Vs
set_option linter.unusedVariables false
set_option linter.unusedSimpArgs false
set_option maxRecDepth 100000
theorem ext_ext (s : ByteArray) (a b i j : Nat) : (s.extract a b).extract i j = s.extract (a + i) (min (a + j) b) := by
  rw [tb_of s]
  generalize s.data.toList = l
  rw [tb_ext, tb_ext, tb_ext]
  congr 1
  rw [List.take_drop, List.take_take, List.drop_drop]
theorem Two.lit {Z : Sys} {σ0 σ : Heap} {e e' e2 t t2 : TypeId} {z z' n n' m : Nat} {cs cs' ys0 ys : List D} {d d' y : D} {it ie : TInfo} {K : D → Heap → Prop} {hK : Keep K} (h : Two σ0 e z n cs d e' z' n' cs' d' σ) (hc : Closed σ0) (ht : Z.T t = some it) (hd : it.d = .slice e2) (hie : Z.T e2 = some ie)
    (hz : ie.zero.cells.size = ie.size) (hz1 : ie.zeros.all D.one = true) (hpos : 0 < ie.size) (hcs : ys0.length = 1 * ie.size) (hf : fedBy Z σ.get t2 ie.size y = some (m, ys)) (hb : (1 + m) * ie.bytes ≤ 140737488355328) (hbig : 1 + m ≤ big)
    (k : ∀ o τ, Two σ0 e z n cs d e' z' n' cs' d' τ → K (.sl o (1 + m) (ys0 ++ ys)) τ) : kR (appendR Z 0 σ.get σ.next #[t, t2] (.sl .full 1 ys0) y) σ K hK := by
  have hlen := fedBy_len hf
  by_cases hm : m = 0
  · have hy : ys = [] := List.eq_nil_of_length_eq_zero (by rw [hlen, hm]; simp)
    subst hy; subst hm
    have : appendR Z 0 σ.get σ.next #[t, t2] (.sl .full 1 ys0) y = some (.sl .full 1 ys0, .keep) := by
      unfold appendR
      simp only [ht, hd, hie, hf]
      rw [if_pos ⟨hpos, hz, hz1⟩, if_pos ⟨hcs, by simpa using hb, by simpa using hbig⟩, if_pos trivial]
    rw [this]
    have := k .full σ h
    rw [List.append_nil] at this
    exact this
  · have : appendR Z 0 σ.get σ.next #[t, t2] (.sl .full 1 ys0) y = some (.sl (.tip σ.next ie.size) (1 + m) (ys0 ++ ys), .new (.tip e2 (ys0.length + ys.length))) := by
      unfold appendR
      simp only [ht, hd, hie, hf]
      rw [if_pos ⟨hpos, hz, hz1⟩, if_pos ⟨hcs, hb, hbig⟩, if_neg hm]
      simp
    rw [this]
    exact k _ _ (h.new hc _)
end Go.Proofs.Ytapkbkniooleaaa.Vs
