/- Stable sorting by slices.SortStableFunc: the plain law of symMerge: two sorted rows behind one another are cut at one place each, turned round in the middle, and each half is merged by itself. No program in sight. -/
namespace Go.Proofs.YthchlpikcpidaaaDoor.Vs
section
variable {α : Type} {T : α → α → Prop}
/-- What is sorted and of the same things is the same. -/
theorem sorted_one (ir : ∀ a : α, ¬ T a a) (tr : ∀ {a b c : α}, T a b → T b c → T a c) : ∀ {l m : List α}, l.Perm m → l.Pairwise T → m.Pairwise T → l = m
  | [], m, hp, _, _ => (List.Perm.nil_eq hp)
  | x :: l, [], hp, _, _ => by have := hp.length_eq; simp at this
  | x :: l, y :: m, hp, hl, hm => by
    rw [List.pairwise_cons] at hl hm
    have hx := List.mem_cons.1 (hp.mem_iff.1 (List.mem_cons_self (a := x) (l := l)))
    have hy := List.mem_cons.1 (hp.mem_iff.2 (List.mem_cons_self (a := y) (l := m)))
    have e : x = y := by
      rcases hx with hx | hx
      · exact hx
      · rcases hy with hy | hy
        · exact hy.symm
        · exact absurd (tr (hl.1 y hy) (hm.1 x hx)) (ir x)
    subst e
    rw [sorted_one ir tr (List.Perm.cons_inv hp) hl.2 hm.2]
end
end Go.Proofs.YthchlpikcpidaaaDoor.Vs
