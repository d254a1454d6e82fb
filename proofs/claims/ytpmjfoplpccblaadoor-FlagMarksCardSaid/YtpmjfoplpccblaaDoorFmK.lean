/- numbers of YtpmjfoplpccblaaDoor -/
import Derived.Test.YtpmjfoplpccblaaDoorFmP
namespace Go.Proofs.YtpmjfoplpccblaaDoor.Vs
set_option maxRecDepth 100000
def libF (f : FuncId) (ds : List D) : Option D :=
  if f = 34 then (match ds with
    | [.str s, .str c] => if decide (c.data.toList = abc) && decide (s.size ≤ 100000) then some (.str (toB (Lib.trimS s.data.toList abc))) else none
    | _ => none)
  else if f = 38 then (match ds with
    | [.str s, .str c] => (match c.data.toList with
      | [b] => some (.int .i64 (Lib.indexByte s.data.toList b))
      | _ => none)
    | _ => none)
  else if f = 19 then (match ds with
    | [.agg [.int .u8 82, .str x, .str v], .agg [.str a, .bool false]] => if (!(v == (⟨#[]⟩ : ByteArray))) && !(a == v) then some (.tup [.agg [.str a, .bool false], .bool false]) else none
    | _ => none)
  else none
theorem libF_ok : ∀ f ds d, libF f ds = some d → Fn Zs f ds d := by
  intro f ds d h
  unfold libF at h
  split at h
  · rename_i hf
    subst hf
    split at h
    · rename_i s c
      split at h
      · rename_i hc
        simp only [Bool.and_eq_true, decide_eq_true_eq] at hc
        cases h
        have e : c = abcB := ba_ext' hc.1
        rw [e]
        exact Trim_c s hc.2
      · cases h
    · cases h
  · split at h
    · rename_i hf
      subst hf
      split at h
      · rename_i s c
        split at h
        · rename_i b hb
          cases h
          have e : c = ⟨#[b]⟩ := ba_ext' (by rw [hb])
          rw [e]
          exact Index_c s b
        · cases h
      · cases h
    · split at h
      · rename_i hf
        subst hf
        split at h
        · rename_i x v a
          split at h
          · rename_i hc
            simp only [Bool.and_eq_true, Bool.not_eq_true'] at hc
            cases h
            exact passR_c x v a hc.1 hc.2
          · cases h
        · cases h
      · cases h
noncomputable def Tf : Tab Zs := tabOf Zs fnL fnL_ok libF libF_ok
theorem flagKnown_c : Fn Zs 5 [] (.bool true) := run_ok (T := Tf) (n := 200) rfl rfl (by kernel_rfl)
end Go.Proofs.YtpmjfoplpccblaaDoor.Vs
