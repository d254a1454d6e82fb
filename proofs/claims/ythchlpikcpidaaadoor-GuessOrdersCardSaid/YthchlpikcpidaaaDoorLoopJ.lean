/- A loop whose exits are joined (as in TkM, for the seats that do not build TkM). -/
import Derived.Test.YthchlpikcpidaaaDoorDmGen
namespace Go.Proofs.YthchlpikcpidaaaDoor.Vs
/-- A loop's exits, joined. -/
def exitR (id : Nat) (R : Env → Heap → Prop) (Q : Ex → Env → Heap → Prop) : Ex → Env → Heap → Prop
  | .exit i, e, s => if i = id then R e s else Q (.exit i) e s
  | x, e, s => Q x e s
theorem exitR_exit {id i : Nat} {R : Env → Heap → Prop} {Q : Ex → Env → Heap → Prop} {e : Env} {s : Heap} : exitR id R Q (.exit i) e s = if i = id then R e s else Q (.exit i) e s := (rfl)
theorem exitR_ret {id : Nat} {R : Env → Heap → Prop} {Q : Ex → Env → Heap → Prop} {e : Env} {s : Heap} : exitR id R Q .ret e s = Q .ret e s := (rfl)
theorem pwp_loopJ {α : Type} {Z : Sys} {Q : Ex → Env → Heap → Prop} {env : Env} {σ : Heap} {a : LCode} (id : Nat) (R : Env → Heap → Prop) (I : α → Env → Heap → Prop) (μ : α → Nat) (x0 : α) (h0 : I x0 env σ)
    (h : ∀ x env' σ', I x env' σ' → pwp Z a (Ex.then (fun e s => ∃ y, I y e s ∧ μ y < μ x) (exitR id R Q)) env' σ') (h2 : ∀ e s, R e s → Q (.exit id) e s) {k : Keep (a, Q, env, σ)} : kLoop Z a Q env σ k := by
  refine pwp_loopG I μ x0 h0 fun x env' σ' hI => pwp_mono a (fun q e s hq => ?_) (h x env' σ' hI)
  cases q with
  | normal => exact hq
  | ret => exact hq
  | exit i =>
    simp only [Ex.then, exitR] at hq ⊢
    split at hq
    · rename_i hi
      subst hi
      exact h2 e s hq
    · exact hq
end Go.Proofs.YthchlpikcpidaaaDoor.Vs
