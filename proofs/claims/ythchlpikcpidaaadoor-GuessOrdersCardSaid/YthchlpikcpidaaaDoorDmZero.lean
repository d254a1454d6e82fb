/- The engine 'Dm': made cells appended to nothing (as slices.Grow does). -/
import Derived.Test.YthchlpikcpidaaaDoorDmOps5
namespace Go.Proofs.YthchlpikcpidaaaDoor.Vs
open Go.RowKit
set_option linter.unusedVariables false
set_option linter.unusedSimpArgs false
section
variable {P : Program}
theorem run_appz {w : World} {t t2 ty e : TypeId} {kk k : IntKind} {inf : TypeInfo} {z : Value} (ht : P.underlying t = some (.slice e)) (ht2 : P.underlying t2 = some (.int kk)) (hi : P.info? e = some inf) (hz : inf.zero = some z)
    {m : Nat} (hm : 0 < m) (hs : 0 < inf.size) (h63 : (m : Int) ≤ 9223372036854775807) (hfit : m * inf.bytes ≤ 140737488355328) :
    (Builtin.append_ #[t, t2] ty #[.slice none 0 0, .int k m]).run P w =
      .ok (.slice (some ⟨w.heap.size, 0, none⟩) (0 + m) (grownCap w (0 + m) 0 e))
        (w.drew.alloc (.cells (([] : List Value).toArray ++ (Builtin.zeroCells z.cells m).toList.toArray ++ Builtin.zeroCells z.cells (grownCap w (0 + m) 0 e - (0 + m))) e)) := by
  have hn : ¬ (0 + m ≤ 0) := by omega
  have hw : IntKind.i64.wrap (m : Int) = m := by
    rw [IntKind.wrap_i64]; omega
  have h63' : ¬ (9223372036854775807 < (m : Int)) := by omega
  have h48 := growslice_fits (bytes := inf.bytes) (need := 0 + m) (old := 0) (by omega) (by simpa using hfit)
  have h48' : ¬ (281474976710656 < Builtin.nextslicecap (0 + m) 0 * inf.bytes) := by omega
  have h49 : ¬ (281474976710656 < (m : Int) * inf.bytes) := by
    have : (m : Int) * inf.bytes = ((m * inf.bytes : Nat) : Int) := by simp
    omega
  have hneg : ¬ ((m : Int) < 0) := by omega
  have hms : ¬ (m = 0 ∨ inf.size = 0) := by omega
  have ha : (asInt (Value.int k (m:Int))).run P w = .ok (m : Int) w := by simp [asInt, asIntOf]
  have hf : (Builtin.firstCells inf.size 0 (Value.slice none 0 0)).run P w.drew = .ok #[] w.drew := by simp [Builtin.firstCells]
  have hms' : ¬ (m * inf.size = 0) := Nat.ne_of_gt (Nat.mul_pos hm hs)
  have hm0 : m ≠ 0 := by omega
  simp only [Nat.zero_add] at h48'
  simp [ha, hf, hms', hm0, Builtin.append_, run_underlying ht, run_underlying ht2, sizeOf, typeInfo, zeroValue, hi, hz, hn, hw, h63', h48', h49, hneg, hms, Question.forced, newRow, grownCap]
end
def appendZ (Z : Sys) (nx : Nat) (ts : Array TypeId) (x y : D) : Option (D × Eff) :=
  match ts.toList with
  | [t, t2] =>
    (match Z.T t, Z.T t2 with
    | some it, some i2 =>
      (match it.d, i2.d with
      | .slice e, .int kk =>
        (match Z.T e with
        | none => none
        | some ie =>
          (match x, y with
          | .sl .nil 0 [], .int k n =>
            if ie.zeros.all D.one = true ∧ ie.zeros.length = ie.size ∧ 0 < ie.size ∧ 0 < n ∧ n.toNat * ie.bytes ≤ 140737488355328 ∧ n.toNat ≤ big then
              some (.row nx 0 n.toNat none ie.size, .new (.cells e (litZero ie (n.toNat * ie.size))))
            else none
          | _, _ => none))
      | _, _ => none)
    | _, _ => none)
  | _ => none
theorem appendZ_ok {Z : Sys} {ts : Array TypeId} {ty : TypeId} {x y d : D} {s : GH} {f : Eff} {w : World} {u v : Value} (hW : W s w) (hx : V w (Lim s) u x) (hy : V w (Lim s) v y) (h : appendZ Z s.σ.next ts x y = some (d, f)) :
    EOK Z.P (Builtin.append_ ts ty #[u, v]) w s d f := by
  unfold appendZ at h
  split at h
  · rename_i t t2 hts
    have hts' : ts = #[t, t2] := by apply Array.ext'; simpa using hts
    subst hts'
    split at h
    · rename_i it i2 hit hi2
      split at h
      · rename_i e kk hd hd2
        split at h
        · cases h
        · rename_i ie hie
          split at h
          · rename_i k n
            split at h
            · rename_i hc0
              obtain ⟨hz1, hz2, hs, h0, hby, hbig⟩ := hc0
              cases h
              obtain ⟨hu, inf, hinf, hsz, hbt, hz⟩ := Z.out hit
              obtain ⟨hu', inf', hinf', hsz', hbt', hz'⟩ := Z.out hie
              have hu2 := (Z.out hi2).1
              cases hy
              cases hx with
              | sl _ _ c A _ us hn hb ho g1 hc hv =>
              obtain ⟨rfl, _, rfl⟩ := ho
              obtain ⟨m, rfl⟩ : ∃ m : Nat, n = (m : Int) := ⟨n.toNat, by omega⟩
              have hm : 0 < m := by omega
              have hzs : ie.zero.cells.size = ie.size := by rw [← hz2]; simp [TInfo.zeros]
              simp only [Int.toNat_natCast] at hby hbig ⊢
              have hrun := run_appz (P := Z.P) (w := w) (ty := ty) (k := k) (hd ▸ hu) (hd2 ▸ hu2) hinf' hz' hm (by omega) (by unfold big at hbig; omega) (by rw [hbt']; exact hby)
              have hlz := litZero_ok w (Lim s) ie (m * ie.size) hz1 hz2 hs
              have hzc : Builtin.zeroCells ie.zero.cells m = (Array.range (m * ie.size)).map (fun j => ie.zero.cells[j % ie.zero.cells.size]!) := by unfold Builtin.zeroCells; rw [hzs]
              have hlen : (litZero ie (m * ie.size)).length = m * ie.size := by simp [litZero]
              obtain ⟨q1, q2, arr, q3, q4, q5, q6⟩ := grown_new (n := 0) (m := m) (c := 0) (s0 := s) (e := e) (cs := []) (ys := litZero ie (m * ie.size)) (olds := []) (news := (Builtin.zeroCells ie.zero.cells m).toList) hW hzs hz1 rfl rfl (fun _ _ h => h) (.cells e (litZero ie (m * ie.size))) (.inr rfl) rfl (by rw [hzc, hlen]; simp) (by simp) hlen (fun u hu => by cases hu)
                (fun u hu => by rw [hzc] at hu; exact hlz.2.1 u hu) (fun i hi => absurd hi (by simp)) (fun i hi => by
                  have := hlz.2.2 i (by simpa using hi)
                  rw [hzc, List.getD, Array.getElem?_toList, ← Array.getD_eq_getD_getElem?]
                  exact this)
              refine ⟨_, _, _, hrun, rfl, ?_, q1, q2⟩
              have hge := grownCap_ge w (0 + m) 0 e
              have hle := grownCap_le w (0 + m) 0 e (by omega)
              have := new_row (w' := w.drew.alloc (.cells (([] : List Value).toArray ++ (Builtin.zeroCells ie.zero.cells m).toList.toArray ++ Builtin.zeroCells ie.zero.cells (grownCap w (0 + m) 0 e - (0 + m))) e)) (s := s) (o := .cells e (litZero ie (m * ie.size))) (l := ⟨w.heap.size, 0, grownCap w (0 + m) 0 e * ie.size⟩) (n := 0 + m) (c' := grownCap w (0 + m) 0 e) (z := ie.size) (c := none) hge hle (by simp [CapOK]) rfl
              rw [Nat.zero_add] at this
              simpa using this
            · cases h
          · cases h
      · cases h
    · cases h
  · cases h
end Go.Proofs.YthchlpikcpidaaaDoor.Vs
