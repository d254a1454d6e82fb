/- The engine 'Dm', part 6b: ranges over maps: an iterator is an object of its own; what comes next is any entry that has not come yet. -/
import Derived.Test.YthchlpikcpidaaaDoorDmZero
import Derived.Maps.RangeRun
namespace Go.Proofs.YthchlpikcpidaaaDoor.Vs
open Go.RowKit
open Go.ChangeMaps (setBlock)
set_option linter.unusedVariables false
set_option linter.unusedSimpArgs false
/-- for .. range m: the iterator. -/
def rangeR (Z : Sys) (g : Nat → Option AO) (t : TypeId) (x : D) : Option Eff :=
  match (Z.T t).map TInfo.d, x with
  | some (.map _ _), .map r => (match g r with
    | some (.map es clk) => some (.new (.miter (some r) clk [] clk))
    | _ => none)
  | some (.map _ _), .nilmap => some (.new (.miter none 0 [] 0))
  | _, _ => none

theorem rangeR_ok {Z : Sys} {t : TypeId} {x : D} {s : GH} {f : Eff} {w : World} {u : Value} (hW : W s w) (hx : V w (Lim s) u x) (h : rangeR Z s.σ.get t x = some f) : EOK Z.P (Instr.range t u) w s (.ptr s.σ.next 0) f := by
  unfold rangeR at h
  have und : ∀ k e, (Z.T t).map TInfo.d = some (TypeDesc.map k e) → Z.P.underlying t = some (.map k e) := fun k e hT => by
    cases hq : Z.T t with
    | none => rw [hq] at hT; cases hT
    | some it =>
      have := (Z.out hq).1
      rw [hq] at hT
      simp only [Option.map_some, Option.some.injEq] at hT
      rw [hT] at this; exact this
  split at h
  · rename_i k e r hT
    split at h
    · rename_i es clk hr
      cases h
      cases hx with
      | map _ hlt =>
      obtain ⟨en, h1, hEO⟩ := hW.obj r _ hr
      have hrun := run_range_map w t k e (s.ρ r).blk en clk (und k e hT) h1
      obtain ⟨hW', hE⟩ := new_obj hW (.mapIter (some (s.ρ r).blk) clk #[] clk) (.miter (some r) clk [] clk) ⟨w.heap.size, 0, 0⟩ rfl fun hE => ⟨by
          rw [push_ρ_new, alloc_new]
          have hne : r ≠ s.σ.next := by have := hW.lt r _ hr; omega
          simp [push_ρ_old _ _ _ hne], by rw [push_ρ_new], fun q hq => by cases hq; have := hW.lt r _ hr; simp [GH.push, Heap.new]; omega⟩
      exact ⟨_, _, _, by rw [Lim_ρ]; exact hrun, rfl, new_ptr rfl, hW', hE⟩
    · cases h
  · rename_i k e hT
    cases h
    cases hx
    have hrun := run_range_nilMap w t k e (und k e hT)
    obtain ⟨hW', hE⟩ := new_obj hW (.mapIter none 0 #[] 0) (.miter none 0 [] 0) ⟨w.heap.size, 0, 0⟩ rfl fun hE => ⟨by rw [push_ρ_new, alloc_new]; rfl, by rw [push_ρ_new], fun q hq => by cases hq⟩
    exact ⟨_, _, _, hrun, rfl, new_ptr rfl, hW', hE⟩
  · cases h

/-- What comes next: any entry that has not come yet; the end, when all have come. -/
def nextK (x : D) (σ : Heap) (K : D → Heap → Prop) : Prop :=
  match x with
  | .ptr r 0 => (match σ.get r with
    | some (.miter none _ _ _) => K (.tup [.bool false]) σ
    | some (.miter (some m) since seen last) => (match σ.get m with
      | some (.map es clk) => since ≤ last ∧ (∀ e ∈ es, e.born < since) ∧ ((∀ e ∈ es, e.born ∈ seen) → K (.tup [.bool false]) σ) ∧ ∀ e ∈ es, e.born ∉ seen → K (.tup [.bool true, e.key, e.val]) (σ.set r (.miter (some m) since (seen ++ [e.born]) clk))
      | _ => False)
    | _ => False)
  | _ => False
theorem nextK_mono {x : D} {σ : Heap} {K K' : D → Heap → Prop} (hk : ∀ d τ, K d τ → K' d τ) (h : nextK x σ K) : nextK x σ K' := by
  unfold nextK at h ⊢
  split at h
  · split at h
    · exact hk _ _ h
    · split at h
      · exact ⟨h.1, h.2.1, fun h' => hk _ _ (h.2.2.1 h'), fun e he hn => hk _ _ (h.2.2.2 e he hn)⟩
      · exact h.elim
    · exact h.elim
  · exact h.elim

theorem EntsOK.mem {w : World} {L : Lk} {en : List MapEntry} {es : List ME} (h : EntsOK w L en es) {x : MapEntry} (hx : x ∈ en) : ∃ e ∈ es, x.born = e.born ∧ V w L x.key e.key ∧ V w L x.val e.val := by
  obtain ⟨i, hi, rfl⟩ := List.getElem_of_mem hx
  have hi' : i < es.length := by rw [← h.1]; exact hi
  have := h.2 i hi'
  rw [show en.getD i default = en[i] by simp [List.getD, hi]] at this
  exact ⟨es[i], List.getElem_mem hi', this⟩

theorem next_ok {Z : Sys} {ty : TypeId} {x : D} {s : GH} {w : World} {u : Value} {K : D → Heap → Prop} (hW : W s w) (hx : V w (Lim s) u x) (h : nextK x s.σ K) :
    ∃ v w' s' d, (Instr.next u false ty).run Z.P w = .ok v w' ∧ V w' (Lim s') v d ∧ W s' w' ∧ Ext w s w' s' ∧ K d s'.σ := by
  unfold nextK at h
  split at h
  · rename_i r
    split at h
    · rename_i a b c hr
      cases hx with
      | ptr _ _ hlt =>
      obtain ⟨h1, h2, _⟩ := hW.obj r _ hr
      refine ⟨.tuple #[.bool false], w, s, _, ?_, .tup _ _ rfl (fun i hi => ?_), hW, Ext.refl hW, h⟩
      · rw [Lim_ρ, h2]
        simp [Instr.next, getObj, Sem.run, h1]
      · match i, hi with
        | 0, _ => exact .bool false
    · rename_i m since seen last hr
      split at h
      · rename_i es clk hm
        obtain ⟨hsl, hold, hend, hnext⟩ := h
        cases hx with
        | ptr _ _ hlt =>
        obtain ⟨h1, h2, h3⟩ := hW.obj r _ hr
        obtain ⟨en, k1, hEO⟩ := hW.obj m _ hm
        simp only [Option.map_some] at h1
        have hold' : ∀ x ∈ en.toList, x.born < since := fun x hx => by
          obtain ⟨e, he, hb, _⟩ := hEO.mem hx
          rw [hb]; exact hold e he
        rw [Lim_ρ, h2, Nat.zero_add]
        rcases run_next_at (P := Z.P) w ty (s.ρ r).blk (s.ρ m).blk since last seen.toArray en clk h1 k1 hold' hsl with ⟨hz, hrun⟩ | ⟨e0, he0, w1, hw1, hrun⟩
        · refine ⟨_, w, s, _, hrun, .tup _ _ rfl (fun i hi => by match i, hi with | 0, _ => exact .bool false), hW, Ext.refl hW, hend fun e he => ?_⟩
          obtain ⟨i, hi, rfl⟩ := List.getElem_of_mem he
          obtain ⟨hb, _⟩ := hEO.2 i hi
          have hi' : i < en.toList.length := by rw [hEO.1]; exact hi
          have hmem : en.toList[i] ∈ en.toList := List.getElem_mem hi'
          have hi2 : i < en.size := by simpa using hi'
          rw [show en.toList.getD i default = en.toList[i] by simp [List.getD, hi2]] at hb
          have hz' : (leftOf en seen.toArray).toList = [] := by
            have : (leftOf en seen.toArray) = #[] := Array.eq_empty_of_size_eq_zero hz
            rw [this]
          by_cases hin : es[i].born ∈ seen
          · exact hin
          · have : en.toList[i] ∈ (leftOf en seen.toArray).toList := by
              unfold leftOf
              rw [Array.toList_filter, List.mem_filter]
              refine ⟨hmem, ?_⟩
              show (!seen.toArray.contains (en.toList[i]).born) = true
              rw [hb]
              simp [hin]
            rw [hz'] at this; cases this
        · have hleft : e0 ∈ en.toList ∧ e0.born ∉ seen := by
            unfold leftOf at he0
            rw [Array.toList_filter, List.mem_filter] at he0
            exact ⟨he0.1, by simpa using he0.2⟩
          obtain ⟨e, he, hb, hkk, hvv⟩ := hEO.mem hleft.1
          have hWs : ∃ n, w1 = { w with drawn := n } := by
            rcases hw1 with rfl | rfl
            · exact ⟨w1.drawn, rfl⟩
            · exact ⟨_, rfl⟩
          obtain ⟨n, rfl⟩ := hWs
          have hW1 := hW.drawn n
          have hE1 := Ext.drawn hW n
          have hlt' := hW1.blk hr
          have hoth : ∀ b, b ≠ (s.ρ r).blk → (setBlock { w with drawn := n } (s.ρ r).blk (.mapIter (some (s.ρ m).blk) since (seen.toArray.push e0.born) clk)).heap[b]? = ({ w with drawn := n } : World).heap[b]? := fun b hb' => by
            simp only [setBlock]; rw [Array.getElem?_setIfInBounds_ne (Ne.symm hb')]
          have hsame : (setBlock { w with drawn := n } (s.ρ r).blk (.mapIter (some (s.ρ m).blk) since (seen.toArray.push e0.born) clk)).heap[(s.ρ r).blk]? = some (.mapIter (some (s.ρ m).blk) since (seen.toArray.push e0.born) clk) := by
            simp only [setBlock]
            have : (s.ρ r).blk < w.heap.size := hlt'
            simp [this]
          have hE : Ext { w with drawn := n } s (setBlock { w with drawn := n } (s.ρ r).blk (.mapIter (some (s.ρ m).blk) since (seen.toArray.push e0.born) clk)) (s.put r (.miter (some m) since (seen ++ [e.born]) clk)) :=
            put_heap hW1 hr (by simp [setBlock]) rfl rfl rfl hoth (fun _ _ h => by cases h)
          have hWn : W (s.put r (.miter (some m) since (seen ++ [e.born]) clk)) _ := put_W hW1 hr hE hoth ⟨by
            show (setBlock { w with drawn := n } (s.ρ r).blk (.mapIter (some (s.ρ m).blk) since (seen.toArray.push e0.born) clk)).heap[(s.ρ r).blk]? = some (.mapIter (some (s.ρ m).blk) since (seen ++ [e.born]).toArray clk)
            rw [hsame, hb]; simp, h2, fun q hq => h3 q hq⟩
          refine ⟨_, _, s.put r (.miter (some m) since (seen ++ [e.born]) clk), _, hrun, .tup _ _ rfl (fun i hi => ?_), hWn, hE1.trans hE, hnext e he (by rw [← hb]; exact hleft.2)⟩
          match i, hi with
          | 0, _ => exact .bool true
          | 1, _ => exact (hkk.ext hE1).ext hE
          | 2, _ => exact (hvv.ext hE1).ext hE
      · exact h.elim
    · exact h.elim
  · exact h.elim

/-- The round's key and value, read behind the step. -/
def entryD (g : Nat → Option AO) (x : D) : Option D :=
  match x with
  | .ptr r 0 => (match g r with
    | some (.miter (some m) _ seen last) => (match g m, seen.getLast? with
      | some (.map es clk), some b => if clk = last then (es.find? (fun e => e.born == b)).map fun e => .tup [e.key, e.val] else none
      | _, _ => none)
    | _ => none)
  | _ => none
theorem find_ents {w : World} {L : Lk} {b : Nat} : ∀ {en : List MapEntry} {es : List ME}, EntsOK w L en es → ∀ {e : ME}, es.find? (fun e => e.born == b) = some e → ∃ x, en.find? (·.born == b) = some x ∧ V w L x.key e.key ∧ V w L x.val e.val
  | [], [], _, e, h => by cases h
  | [], _ :: _, hE, _, _ => by have := hE.1; simp at this
  | _ :: _, [], _, _, h => by cases h
  | x :: en, y :: es, hE, e, h => by
    have h0 := hE.2 0 (by simp)
    simp only [List.getD_cons_zero, List.getElem_cons_zero] at h0
    rw [List.find?_cons] at h ⊢
    rw [h0.1]
    cases hb : y.born == b with
    | true => rw [hb] at h; cases h; exact ⟨x, rfl, h0.2⟩
    | false =>
      rw [hb] at h
      exact find_ents (en := en) (es := es) ⟨by have := hE.1; simpa using this, fun i hi => by have := hE.2 (i + 1) (by simpa using hi); simpa [List.getD] using this⟩ h
theorem entry_ok {P : Program} {x d : D} {s : GH} {w : World} {u : Value} (hW : W s w) (hx : V w (Lim s) u x) (h : entryD s.σ.get x = some d) : ∃ v, (Instr.entry u).run P w = .ok v w ∧ V w (Lim s) v d := by
  unfold entryD at h
  split at h
  · rename_i r
    split at h
    · rename_i m since seen last hr
      split at h
      · rename_i es clk b hm hb
        split at h
        · rename_i hcl
          subst hcl
          cases hx with
          | ptr _ _ hlt =>
          obtain ⟨h1, h2, h3⟩ := hW.obj r _ hr
          obtain ⟨en, k1, hEO⟩ := hW.obj m _ hm
          simp only [Option.map_some] at h1
          cases hf : es.find? (fun e => e.born == b) with
          | none => rw [hf] at h; cases h
          | some e =>
            rw [hf] at h
            cases h
            obtain ⟨y, hy, hk, hv⟩ := find_ents hEO hf
            have hy' : en.find? (·.born == b) = some y := by rw [← Array.find?_toList]; exact hy
            have hback : seen.toArray.back? = some b := by rw [List.back?_toArray]; exact hb
            refine ⟨.tuple #[y.key, y.val], ?_, V_tup2 hk hv⟩
            rw [Lim_ρ, h2]
            simp [Instr.entry, getObj, Sem.run, h1, k1, hback, hy']
        · cases h
      · cases h
    · cases h
  · cases h
end Go.Proofs.YthchlpikcpidaaaDoor.Vs
