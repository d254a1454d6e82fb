/- The engine 'Dm', part 4: appends, copies, clears. -/
import Derived.Test.YthchlpikcpidaaaDoorDmOps2
namespace Go.Proofs.YthchlpikcpidaaaDoor.Vs
open Go.RowKit
set_option linter.unusedVariables false
set_option linter.unusedSimpArgs false
section
variable {P : Program}
/-- What is appended: its length, and its cells, read in any world with this heap. -/
def Feeds (P : Program) (heap : Array Obj) (size : Nat) (x : Value) (m : Nat) (news : List Value) : Prop :=
  (∀ w, (Builtin.lenOf x).run P w = .ok m w) ∧ ∀ w, w.heap = heap → (Builtin.firstCells size m x).run P w = .ok news.toArray w

def NotInt (d : TypeDesc) : Prop := (∃ e, d = .slice e) ∨ d = .string

theorem run_app_zero {w : World} {t t2 ty e : TypeId} {d2 : TypeDesc} {inf : TypeInfo} (ht : P.underlying t = some (.slice e)) (ht2 : P.underlying t2 = some d2) (hd2 : NotInt d2) (hi : P.info? e = some inf)
    {x : Value} (hx : Feeds P w.heap inf.size x 0 []) (A : Option Addr) (n c : Nat) (hn : n ≤ c) :
    (Builtin.append_ #[t, t2] ty #[.slice A n c, x]).run P w = .ok (.slice A n c) w := by
  obtain ⟨h1, h2⟩ := hx
  have h2' := h2 w rfl
  rcases hd2 with ⟨e2, rfl⟩ | rfl <;> cases A <;> simp [Builtin.append_, run_underlying ht, run_underlying ht2, sizeOf, typeInfo, hi, h1, h2', hn, storeCells]

theorem run_app_grow {w : World} {t t2 ty e : TypeId} {d2 : TypeDesc} {inf : TypeInfo} {z : Value} (ht : P.underlying t = some (.slice e)) (ht2 : P.underlying t2 = some d2) (hd2 : NotInt d2) (hi : P.info? e = some inf) (hz : inf.zero = some z)
    {x : Value} {m : Nat} {news olds : List Value} (hx : Feeds P w.heap inf.size x m news) (A : Option Addr) (n c : Nat) (hgt : c < n + m)
    (hold : ∀ w', w'.heap = w.heap → (Builtin.firstCells inf.size n (.slice A n c)).run P w' = .ok olds.toArray w')
    (h63 : ((n + m : Nat) : Int) ≤ 9223372036854775807) (hfit : (n + m) * inf.bytes ≤ 140737488355328) :
    (Builtin.append_ #[t, t2] ty #[.slice A n c, x]).run P w =
      .ok (.slice (some ⟨w.heap.size, 0, none⟩) (n + m) (grownCap w (n + m) c e))
        (w.drew.alloc (.cells (olds.toArray ++ news.toArray ++ Builtin.zeroCells z.cells (grownCap w (n + m) c e - (n + m))) e)) := by
  obtain ⟨h1, h2⟩ := hx
  have h2' := h2 w.drew rfl
  have h3 := hold w.drew rfl
  have hn : ¬ (n + m ≤ c) := by omega
  have h63' : ¬ (9223372036854775807 < ((n : Int) + (m : Int))) := by omega
  have h48 := growslice_fits (bytes := inf.bytes) hgt hfit
  have h48' : ¬ (281474976710656 < Builtin.nextslicecap (n + m) c * inf.bytes) := by omega
  rcases hd2 with ⟨e2, rfl⟩ | rfl <;>
  simp [Builtin.append_, run_underlying ht, run_underlying ht2, sizeOf, typeInfo, zeroValue, hi, hz, h1, hn, h63', h48', Question.forced, h2', h3, newRow, grownCap] <;> (congr 2; apply Array.ext'; simp)

theorem run_app_room {w : World} {t t2 ty e e' : TypeId} {d2 : TypeDesc} {inf : TypeInfo} (ht : P.underlying t = some (.slice e)) (ht2 : P.underlying t2 = some d2) (hd2 : NotInt d2) (hi : P.info? e = some inf)
    {x : Value} {m : Nat} {news : List Value} (hx : Feeds P w.heap inf.size x m news) (h1 : ∀ u ∈ news, u.oneCell' = true) (g b n c : Nat) (cur : Array Value) (hg : w.heap[g]? = some (.cells cur e' (0, 0)))
    (hroom : n + m ≤ c) (hfit : b + n * inf.size + news.length ≤ cur.size) :
    (Builtin.append_ #[t, t2] ty #[.slice (some ⟨g, b, none⟩) n c, x]).run P w =
      .ok (.slice (some ⟨g, b, none⟩) (n + m) c) (w.setRow g (cur.toList.take (b + n * inf.size) ++ news ++ cur.toList.drop (b + n * inf.size + news.length)).toArray) := by
  obtain ⟨h3, h2⟩ := hx
  have h2' := h2 w rfl
  have hst := run_storeCells_at P g (b + n * inf.size) e' news 0 cur w hg (by simpa using hfit) h1
  simp only [Nat.add_zero] at hst
  have hadd : (⟨g, b, none⟩ : Addr).add (n * inf.size) = ⟨g, b + n * inf.size, none⟩ := addr_add _ _ _
  rcases hd2 with ⟨e2, rfl⟩ | rfl <;>
  simp [Builtin.append_, run_underlying ht, run_underlying ht2, sizeOf, typeInfo, hi, h3, hroom, h2', hadd, hst]
end
theorem grownCap_eq (w : World) (need old : Nat) (e : TypeId) : grownCap w need old e = need + w.tape w.drawn (.appendCap need old e) % (9223372036854775808 - need) := rfl

theorem grownCap_ge (w : World) (need old : Nat) (e : TypeId) : need ≤ grownCap w need old e := by
  rw [grownCap_eq]; exact Nat.le_add_right _ _

theorem grownCap_le (w : World) (need old : Nat) (e : TypeId) (h : need ≤ big) : grownCap w need old e ≤ big := by
  rw [grownCap_eq]
  unfold big at *
  have : w.tape w.drawn (.appendCap need old e) % (9223372036854775808 - need) < 9223372036854775808 - need := Nat.mod_lt _ (by omega)
  omega

/-- What is appended, as pure cells. -/
def fedBy (Z : Sys) (g : Nat → Option AO) (t2 : TypeId) (size : Nat) (y : D) : Option (Nat × List D) :=
  match Z.T t2 with
  | none => none
  | some i2 =>
    match i2.d, y with
    | .slice _, .sl _ m ys => if ys.length = m * size then some (m, ys) else none
    | .slice _, .row r off m _ z => (match g r with
      | some (.cells _ cs) => if off + m * size ≤ cs.length then some (m, (cs.drop off).take (m * size)) else none
      | _ => none)
    | .string, .str s => if size = 1 then some (s.size, s.data.toList.map fun b => .int .u8 b.toNat) else none
    | _, _ => none

theorem fed_cells {P : Program} {w : World} {L : Lk} {size m c : Nat} {A : Option Addr} {ys : List D} {us : Nat → Value} (hs : 0 < size) (hl : ys.length = m * size) (h1 : ∀ i, i < ys.length → (us i).oneCell' = true)
    (hc : ∀ i, i < ys.length → ∃ a, A = some a ∧ w.cell? (a.add i) = some (us i)) (hv : ∀ i (h : i < ys.length), V w L (us i) ys[i]) :
    ∃ news : List Value, Feeds P w.heap size (.slice A m c) m news ∧ (∀ u ∈ news, u.oneCell' = true) ∧ news.length = ys.length ∧ ys.length = m * size ∧ ∀ i (h : i < ys.length), V w L (news.getD i undef) ys[i] := by
  refine ⟨(List.range ys.length).map us, ⟨fun w' => by simp [Builtin.lenOf], fun w' hw' => ?_⟩, ?_, by simp, hl, fun i hi => ?_⟩
  · rcases Nat.eq_zero_or_pos m with h0 | h0
    · have hy0 : ys.length = 0 := by rw [hl, h0]; simp
      rw [hy0, h0]
      cases A <;> simp [Builtin.firstCells, loadCells, loadCellsFrom]
    · have hpos : 0 < ys.length := by rw [hl]; exact Nat.mul_pos h0 hs
      obtain ⟨a, rfl, _⟩ := hc 0 hpos
      have := run_firstCells_some (P := P) w' size m a m c ((List.range ys.length).map us) (by simpa using hl) (fun j u hj => by
        have hjl : j < ys.length := by have := (List.getElem?_eq_some_iff.1 hj).1; simpa using this
        have hu : u = us j := by simp [hjl] at hj; exact hj.symm
        obtain ⟨a', ha', h2⟩ := hc j hjl
        cases ha'
        rw [hu, ← h2]
        unfold World.cell?
        rw [hw'])
      exact this
  · intro u hu
    simp only [List.mem_map, List.mem_range] at hu
    obtain ⟨j, hj, rfl⟩ := hu
    exact h1 j hj
  · have := hv i hi
    simpa [List.getD, hi] using this

/-- A row's cells. -/
theorem row_cells {w : World} {s : GH} (hW : W s w) {r off n c' : Nat} {e : TypeId} {cs : List D} {a : Addr} (hr : s.σ.get r = some (.cells e cs)) (ha : 0 < c' → a = ⟨(s.ρ r).blk, (s.ρ r).base + off, none⟩) {k : Nat} (hk : off + k ≤ cs.length) (hc : 0 < k → 0 < c') :
    ∃ us : Nat → Value, (∀ i, i < ((cs.drop off).take k).length → (us i).oneCell' = true) ∧ (∀ i, i < ((cs.drop off).take k).length → ∃ a', some a = some a' ∧ w.cell? (a'.add i) = some (us i)) ∧
      ∀ i (h : i < ((cs.drop off).take k).length), V w (Lim s) (us i) ((cs.drop off).take k)[i] := by
  obtain ⟨us, h1, h2, h3⟩ := ptr_cells (off := off) (hW.obj r _ hr)
  have hlen : ((cs.drop off).take k).length = k := by simp; omega
  refine ⟨us, fun i hi => h1 i (by simp; omega), fun i hi => ⟨a, rfl, ?_⟩, fun i hi => ?_⟩
  · rw [ha (hc (by omega))]; exact h2 i (by simp; omega)
  · have := h3 i (by simp; omega)
    simpa using this

theorem fedBy_ok {Z : Sys} {t2 : TypeId} {size : Nat} {y : D} {m : Nat} {ys : List D} {w : World} {s : GH} {v : Value} (hW : W s w) (hv : V w (Lim s) v y) (h : fedBy Z s.σ.get t2 size y = some (m, ys)) (hs : 0 < size) :
    ∃ news : List Value, Feeds Z.P w.heap size v m news ∧ (∀ u ∈ news, u.oneCell' = true) ∧ news.length = ys.length ∧ ys.length = m * size ∧ ∀ i (h : i < ys.length), V w (Lim s) (news.getD i undef) ys[i] := by
  unfold fedBy at h
  split at h
  · cases h
  · rename_i i2 hi2
    split at h
    · rename_i e2 o m' ys' hd
      split at h
      · rename_i hl
        cases h
        cases hv with
        | sl _ _ c A _ us hn hb ho h1 hc hv =>
          exact fed_cells hs hl h1 (fun i hi => by obtain ⟨a, ha, h2, _⟩ := hc i hi; exact ⟨a, ha, h2⟩) hv
      · cases h
    · rename_i e2 r off m' c z hd
      split at h
      · rename_i e' cs hr
        split at h
        · rename_i hfit
          cases h
          cases hv with
          | row _ _ _ _ _ a c' hlt hn hb hf ha =>
            rw [Lim_ρ] at ha
            obtain ⟨us, h1, h2, h3⟩ := row_cells (n := m) (c' := c') hW hr ha hfit (fun hp => by
              have : 0 < m := Nat.pos_of_mul_pos_right hp
              omega)
            exact fed_cells hs (by simp; omega) h1 h2 h3
        · cases h
      · cases h
    · rename_i s' hd
      split at h
      · rename_i h1
        cases h
        subst h1
        cases hv
        refine ⟨s'.data.toList.map fun b => .int .u8 b.toNat, ⟨fun w' => by simp [Builtin.lenOf], fun w' hw' => ?_⟩, ?_, by simp, by simp, fun i hi => ?_⟩
        · have : s'.extract 0 s'.size = s' := by simp
          have hm : Array.map (fun b : UInt8 => Value.int IntKind.u8 ↑b.toNat) s'.data = (List.map (fun b : UInt8 => Value.int IntKind.u8 ↑b.toNat) s'.data.toList).toArray := by
            apply Array.ext'; simp
          simp [Builtin.firstCells, this, hm]
        · intro u hu
          simp only [List.mem_map] at hu
          obtain ⟨b, _, rfl⟩ := hu
          rfl
        · have hi' : i < s'.data.size := by simpa using hi
          have e1 : s'.data[i]? = some s'.data[i] := Array.getElem?_eq_getElem hi'
          simp [List.getD, e1]
          exact .int _ _
      · cases h
    · cases h

def appendR (Z : Sys) (ann : Nat) (g : Nat → Option AO) (nx : Nat) (ts : Array TypeId) (x y : D) : Option (D × Eff) :=
  match ts.toList with
  | [t, t2] =>
    (match Z.T t with
    | none => none
    | some it =>
      match it.d with
      | .slice e =>
        (match Z.T e with
        | none => none
        | some ie =>
          match fedBy Z g t2 ie.size y with
          | none => none
          | some (m, ys) =>
            if 0 < ie.size ∧ ie.zero.cells.size = ie.size ∧ ie.zeros.all D.one = true then
            (match x with
            | .sl o n cs =>
              if cs.length = n * ie.size ∧ (n + m) * ie.bytes ≤ 140737488355328 ∧ n + m ≤ big then
                if m = 0 then some (.sl o n cs, .keep) else
                (match o with
                | .tip r z => (match g r with
                  | some (.tip e' k) => if e' = e ∧ k = cs.length ∧ z = ie.size then some (.sl (.tip nx z) (n + m) (cs ++ ys), .move r (.tip e (cs.length + ys.length))) else none
                  | _ => none)
                | .no => none
                | _ => if ann = 1 then some (.row nx 0 (n + m) none ie.size, .new (.cells e (cs ++ ys))) else some (.sl (.tip nx ie.size) (n + m) (cs ++ ys), .new (.tip e (cs.length + ys.length))))
              else none
            | .row r off n c z => (match g r with
              | some (.cells e' cs) =>
                if e' = e ∧ z = ie.size ∧ off + n * z ≤ cs.length ∧ (n + m) * ie.bytes ≤ 140737488355328 ∧ n + m ≤ big then
                  if m = 0 then some (.row r off n c z, .keep) else
                  (match c with
                  | some k => if n + m ≤ k then (if off + (n + m) * z ≤ cs.length then some (.row r off (n + m) (some k) z, .put r (.cells e (splice cs (off + n * z) ys))) else none)
                      else some (.row nx 0 (n + m) none z, .new (.cells e ((cs.drop off).take (n * z) ++ ys)))
                  | none => if off + (n + m) * z ≤ cs.length then some (.row r off (n + m) none z, .put r (.cells e (splice cs (off + n * z) ys)))
                      else some (.row nx 0 (n + m) none z, .move r (.cells e ((cs.drop off).take (n * z) ++ ys))))
                else none
              | _ => none)
            | _ => none)
            else none)
      | _ => none)
  | _ => none

/-- An object goes over to a new one in its place. -/
theorem move_W {w w' : World} {s : GH} {r : Nat} {o o' : AO} {l : Loc} (hW : W s w) (hr : s.σ.get r = some o) (hl : l.blk = (s.ρ r).blk) (hsz : w'.heap.size = w.heap.size) (hos : w'.os = w.os) (htp : w'.tape = w.tape) (hout : w'.output = w.output)
    (hoth : ∀ b, b ≠ (s.ρ r).blk → w'.heap[b]? = w.heap[b]?)
    (hlim : ∀ i v, (Lim s).ok (s.ρ r).blk i → w.cell? ⟨(s.ρ r).blk, i, none⟩ = some v → w'.cell? ⟨(s.ρ r).blk, i, none⟩ = some v ∧ (match o' with | .tip _ n => i < l.base + n | _ => False))
    (hx : Ext w s w' ((s.del r).push o' l) → ObjOK w' ((s.del r).push o' l) s.σ.next o') : W ((s.del r).push o' l) w' ∧ Ext w s w' ((s.del r).push o' l) := by
  have hn : (s.del r).σ.next = s.σ.next := rfl
  have getO : ∀ q x, ((s.del r).push o' l).σ.get q = some x → (q = s.σ.next ∧ x = o') ∨ (q ≠ s.σ.next ∧ q ≠ r ∧ s.σ.get q = some x) := fun q x hq => by
    rw [push_get, hn] at hq
    split at hq
    · rename_i h; cases hq; exact .inl ⟨h, rfl⟩
    · rename_i h
      simp only [GH.del, Heap.del_get] at hq
      split at hq
      · cases hq
      · rename_i h2; exact .inr ⟨h, h2, hq⟩
  have rN : ((s.del r).push o' l).ρ s.σ.next = l := push_ρ_new (s.del r) o' l
  have rO : ∀ q, q ≠ s.σ.next → ((s.del r).push o' l).ρ q = s.ρ q := fun q hq => push_ρ_old (s.del r) o' l hq
  have hE : Ext w s w' ((s.del r).push o' l) := by
    refine ⟨hos, htp, hout, by rw [hsz]; exact Nat.le_refl _, by simp [GH.push, GH.del, Heap.new, Heap.del], fun q hq => rO q (by omega), fun b hb hf => hoth b (fun e => hf r o hr e.symm), fun b hb hf q x hq => ?_, fun q e x hq i v hi hc => ?_⟩
    · rcases getO q x hq with ⟨rfl, _⟩ | ⟨h1, h2, h3⟩
      · rw [rN, hl]; exact hf r o hr
      · rw [rO q h1]; exact hf q x h3
    · by_cases hqr : q = r
      · subst hqr
        obtain ⟨h1, h2⟩ := hlim i v ((Ext.refl hW).tip q e x hq i v hi hc).2 hc
        refine ⟨h1, fun q' y hq' hb => ?_⟩
        rcases getO q' y hq' with ⟨rfl, rfl⟩ | ⟨h3, h4, h5⟩
        · rw [rN]; exact h2
        · rw [rO q' h3] at hb; exact absurd (hW.inj q' q y _ h5 hq hb) h4
      · have hb := hW.inj' hr hq hqr
        refine ⟨(cell_of_heap (hoth _ hb) i).trans hc, fun q' y hq' hb' => ?_⟩
        rcases getO q' y hq' with ⟨rfl, rfl⟩ | ⟨h3, h4, h5⟩
        · rw [rN, hl] at hb'; exact absurd hb'.symm hb
        · rw [rO q' h3] at hb' ⊢
          have := hW.inj q' q y _ h5 hq hb'
          subst this
          rw [hq] at h5; cases h5; exact hi
  refine ⟨hW.step hE (fun q x hq => ?_) (fun q1 q2 x y h1 h2 hb => ?_), hE⟩
  · rcases getO q x hq with ⟨rfl, rfl⟩ | ⟨h1, h2, h3⟩
    · exact .inr ⟨by simp [GH.push, GH.del, Heap.new, Heap.del], hx hE⟩
    · exact .inl ⟨h3, hoth _ (hW.inj' hr h3 h2)⟩
  · rcases getO q1 x h1 with ⟨rfl, rfl⟩ | ⟨a1, a2, a3⟩ <;> rcases getO q2 y h2 with ⟨rfl, rfl⟩ | ⟨b1, b2, b3⟩
    · rfl
    · rw [rN, rO q2 b1, hl] at hb; exact absurd hb.symm (hW.inj' hr b3 b2)
    · rw [rN, rO q1 a1, hl] at hb; exact absurd hb (hW.inj' hr a3 a2)
    · rw [rO q1 a1, rO q2 b1] at hb; exact hW.inj q1 q2 x y a3 b3 hb

/-- A grown block, new in the world. -/
theorem grown_new {w : World} {s s0 : GH} (hW : W s w) {e : TypeId} {size n m c : Nat} {z : Value} (hz : z.cells.size = size) (hz1 : (z.cells.toList.map ofV).all D.one = true) (hσ : s0.σ.next = s.σ.next) (hρ : s0.ρ = s.ρ) (h0 : ∀ r x, s0.σ.get r = some x → s.σ.get r = some x)
    {olds news : List Value} {cs ys : List D} (o : AO) (ho : o = .tip e (cs.length + ys.length) ∨ o = .cells e (cs ++ ys))
    (hol : olds.length = cs.length) (hnl : news.length = ys.length) (hcl : cs.length = n * size) (hyl : ys.length = m * size) (ho1 : ∀ u ∈ olds, u.oneCell' = true) (h1 : ∀ u ∈ news, u.oneCell' = true)
    (hov : ∀ i (h : i < cs.length), V w (Lim s) (olds.getD i undef) cs[i]) (hnv : ∀ i (h : i < ys.length), V w (Lim s) (news.getD i undef) ys[i]) :
    let w' := w.drew.alloc (.cells (olds.toArray ++ news.toArray ++ Builtin.zeroCells z.cells (grownCap w (n + m) c e - (n + m))) e)
    let s' := s0.push o ⟨w.heap.size, 0, grownCap w (n + m) c e * size⟩
    W s' w' ∧ Ext w s w' s' ∧ (∃ arr, w'.heap[w.heap.size]? = some (.cells arr e (0, 0)) ∧ arr.size = grownCap w (n + m) c e * size ∧ (∀ i, i < (cs ++ ys).length → (arr.getD i undef).oneCell' = true) ∧ ∀ i (h : i < (cs ++ ys).length), V w' (Lim s') (arr.getD i undef) (cs ++ ys)[i]) := by
  intro w' s'
  have hge := grownCap_ge w (n + m) c e
  have hheap : ∀ b, b < w.heap.size → w'.heap[b]? = w.heap[b]? := fun b hb => alloc_heap w.drew _ b hb
  have hnew : w'.heap[w.heap.size]? = some (.cells (olds.toArray ++ news.toArray ++ Builtin.zeroCells z.cells (grownCap w (n + m) c e - (n + m))) e (0, 0)) := alloc_new w.drew _
  have hE : Ext w s w' s' := Ext.own hW o _ (Nat.le_refl _) hσ hρ h0 rfl rfl rfl (by (show w.heap.size ≤ (w.heap.push _).size; simp)) hheap
  have hsize : (olds.toArray ++ news.toArray ++ Builtin.zeroCells z.cells (grownCap w (n + m) c e - (n + m))).size = grownCap w (n + m) c e * size := by
    simp [Builtin.zeroCells, hz, hol, hnl, hcl, hyl]
    rw [← Nat.add_mul, ← Nat.add_mul]
    congr 1
    omega
  have hget : ∀ i, i < (cs ++ ys).length → (olds.toArray ++ news.toArray ++ Builtin.zeroCells z.cells (grownCap w (n + m) c e - (n + m))).getD i undef = (olds ++ news).getD i undef := fun i hi => by
    have : i < (olds ++ news).length := by simp at hi ⊢; omega
    rw [Array.getD_eq_getD_getElem?, Array.getElem?_append_left (by simpa using this)]
    simp [List.getD]
  have hvs : ∀ i (h : i < (cs ++ ys).length), V w' (Lim s') ((olds ++ news).getD i undef) (cs ++ ys)[i] := fun i hi => by
    by_cases hlt : i < cs.length
    · have := (hov i hlt).ext hE
      rw [List.getElem_append_left hlt]
      rw [List.getD, List.getElem?_append_left (by omega)]
      exact this
    · have h3 : i - cs.length < ys.length := by simp at hi; omega
      have := (hnv _ h3).ext hE
      rw [List.getElem_append_right (by omega), List.getD, List.getElem?_append_right (by omega), hol]
      exact this
  have hone : ∀ i, i < (cs ++ ys).length → ((olds ++ news).getD i undef).oneCell' = true := fun i hi => by
    have : i < (olds ++ news).length := by simp at hi ⊢; omega
    rw [List.getD, List.getElem?_eq_getElem this]
    have hm : (olds ++ news)[i] ∈ olds ++ news := List.getElem_mem _
    rcases List.mem_append.1 hm with h | h
    · exact ho1 _ h
    · exact h1 _ h
  have hlen : (cs ++ ys).length ≤ grownCap w (n + m) c e * size := by
    simp; rw [hcl, hyl, ← Nat.add_mul]; exact Nat.mul_le_mul_right _ hge
  refine ⟨hW.own o _ (Nat.le_refl _) hσ hρ h0 hE hheap ?_, hE, olds.toArray ++ news.toArray ++ Builtin.zeroCells z.cells (grownCap w (n + m) c e - (n + m)), hnew, hsize, fun i hi => by rw [hget i hi]; exact hone i hi, fun i hi => by rw [hget i hi]; exact hvs i hi⟩
  have hρn : s'.ρ s0.σ.next = ⟨w.heap.size, 0, grownCap w (n + m) c e * size⟩ := push_ρ_new _ _ _
  rcases ho with rfl | rfl
  · refine ⟨olds.toArray ++ news.toArray ++ Builtin.zeroCells z.cells (grownCap w (n + m) c e - (n + m)), ?_, ?_, ?_⟩
    · rw [hρn]; exact hnew
    · rw [hρn]; simpa using hlen
    · rw [hρn, hsize]; simp
  · refine ⟨olds.toArray ++ news.toArray ++ Builtin.zeroCells z.cells (grownCap w (n + m) c e - (n + m)), ?_, ?_, ?_, ?_, fun i hi => ?_⟩
    · rw [hρn]; exact hnew
    · rw [hρn]; exact hlen
    · rw [hρn, hsize]; simp
    · intro i hi
      rw [hρn]; simp only [Nat.zero_add]; rw [hget i hi]; exact hone i hi
    · rw [hρn]; simp only [Nat.zero_add]; rw [hget i hi]; exact hvs i hi

theorem list_of {w : World} {L : Lk} {n c : Nat} {A : Option Addr} {o : Own} {cs : List D} (h : V w L (.slice A n c) (.sl o n cs)) {size : Nat} (hs : 0 < size) (hl : cs.length = n * size) (P : Program) :
    ∃ olds : List Value, Feeds P w.heap size (.slice A n c) n olds ∧ (∀ u ∈ olds, u.oneCell' = true) ∧ olds.length = cs.length ∧ cs.length = n * size ∧ ∀ i (h : i < cs.length), V w L (olds.getD i undef) cs[i] := by
  cases h with
  | sl _ _ _ _ _ us hn hb ho h1 hc hv => exact fed_cells hs hl h1 (fun i hi => by obtain ⟨a, ha, h2, _⟩ := hc i hi; exact ⟨a, ha, h2⟩) hv

theorem mv_ρ_new (s : GH) (r : Nat) (o : AO) (l : Loc) : ((s.del r).push o l).ρ s.σ.next = l := push_ρ_new (s.del r) o l
theorem mv_ρ_old (s : GH) (r : Nat) (o : AO) (l : Loc) {q : Nat} (h : q ≠ s.σ.next) : ((s.del r).push o l).ρ q = s.ρ q := push_ρ_old (s.del r) o l h

/-- Cells of a row that grows in its place. -/
theorem room_tip {w : World} {s : GH} (hW : W s w) {e : TypeId} {n m r c z : Nat} {cs ys : List D} {news : List Value} {arr : Array Value}
    (hσ : s.σ.get r = some (.tip e cs.length)) (ha : w.heap[(s.ρ r).blk]? = some (.cells arr e (0, 0))) (hca : (s.ρ r).base + (s.ρ r).cap ≤ arr.size) (hcz : c * z = (s.ρ r).cap) (hcl : cs.length = n * z) (hyl : ys.length = m * z) (hnl : news.length = ys.length)
    (hroom : n + m ≤ c) (hb : c ≤ big) (hlt : r < s.σ.next) (h1 : ∀ u ∈ news, u.oneCell' = true) (hnv : ∀ i (h : i < ys.length), V w (Lim s) (news.getD i undef) ys[i]) (hv : V w (Lim s) (.slice (some ⟨(s.ρ r).blk, (s.ρ r).base, none⟩) n c) (.sl (.tip r z) n cs)) :
    let w' := w.setRow (s.ρ r).blk (arr.toList.take ((s.ρ r).base + n * z) ++ news ++ arr.toList.drop ((s.ρ r).base + n * z + news.length)).toArray
    let s' := (s.del r).push (.tip e (cs.length + ys.length)) (s.ρ r)
    V w' (Lim s') (.slice (some ⟨(s.ρ r).blk, (s.ρ r).base, none⟩) (n + m) c) (.sl (.tip s.σ.next z) (n + m) (cs ++ ys)) ∧ W s' w' ∧ Ext w s w' s' := by
  intro w' s'
  have hrm : (n + m) * z ≤ (s.ρ r).cap := by rw [← hcz]; exact Nat.mul_le_mul_right _ hroom
  have hnm : n * z + m * z = (n + m) * z := (Nat.add_mul _ _ _).symm
  have hfit : (s.ρ r).base + n * z + news.length ≤ arr.toList.length := by simp; omega
  have hnew : w'.heap[(s.ρ r).blk]? = some (.cells (arr.toList.take ((s.ρ r).base + n * z) ++ news ++ arr.toList.drop ((s.ρ r).base + n * z + news.length)).toArray e (0, 0)) := setRow_same w _ _ arr e (0, 0) ha
  have hget : ∀ i, ((arr.toList.take ((s.ρ r).base + n * z) ++ news ++ arr.toList.drop ((s.ρ r).base + n * z + news.length)).toArray).getD i undef =
      if i < (s.ρ r).base + n * z then arr.toList.getD i undef else if i < (s.ρ r).base + n * z + news.length then news.getD (i - ((s.ρ r).base + n * z)) undef else arr.toList.getD i undef := fun i => by
    rw [← getD_splice arr.toList ((s.ρ r).base + n * z) news undef hfit i]
    simp [List.getD]
  have hcellD : ∀ i, i < arr.toList.length → w'.cell? ⟨(s.ρ r).blk, i, none⟩ = some (((arr.toList.take ((s.ρ r).base + n * z) ++ news ++ arr.toList.drop ((s.ρ r).base + n * z + news.length)).toArray).getD i undef) := fun i hi => by
    have hl : i < (arr.toList.take ((s.ρ r).base + n * z) ++ news ++ arr.toList.drop ((s.ρ r).base + n * z + news.length)).length := by simp at hi hfit ⊢; omega
    simp only [World.cell?, hnew]
    rw [List.getElem?_toArray, List.getElem?_eq_getElem hl]
    simp only [Array.getD_eq_getD_getElem?, List.getElem?_toArray, List.getElem?_eq_getElem hl]
    simp
  obtain ⟨hW', hE⟩ := move_W (w' := w') (o' := .tip e (cs.length + ys.length)) (l := s.ρ r) hW hσ rfl (by simp [w', World.setRow]) rfl rfl rfl (fun b hb => setRow_other w _ _ b hb) (fun i v hL hc => by
    have ho : i < (s.ρ r).base + cs.length := hL r _ hσ rfl
    have hoa : i < arr.toList.length := by omega
    refine ⟨?_, by simp only; omega⟩
    rw [hcellD i hoa, hget i, if_pos (by omega)]
    have : w.cell? ⟨(s.ρ r).blk, i, none⟩ = arr[i]? := by simp [World.cell?, ha]
    rw [this] at hc
    simp [List.getD, hc]) (fun hE => ⟨(arr.toList.take ((s.ρ r).base + n * z) ++ news ++ arr.toList.drop ((s.ρ r).base + n * z + news.length)).toArray, by rw [mv_ρ_new]; exact hnew, by rw [mv_ρ_new]; omega, by rw [mv_ρ_new]; simp at hfit ⊢; omega⟩)
  have hρ : s'.ρ s.σ.next = s.ρ r := mv_ρ_new _ _ _ _
  have hsl := hv
  cases hv with
  | sl _ _ _ _ _ us _ _ _ g1 hc hv' =>
  have hold : ∀ i, i < cs.length → arr.toList.getD ((s.ρ r).base + i) undef = us i := fun i hi => by
    obtain ⟨a, haa, h2, _⟩ := hc i hi
    cases haa
    rw [addr_add] at h2
    simp [World.cell?, ha] at h2
    simp only [List.getD, Array.getElem?_toList, h2]
    rfl
  refine ⟨V_new (.tip s.σ.next z) (n + m) c hroom hb ⟨?_, ?_, ?_⟩ hnew ?_ (fun i hi => ?_) (fun i hi => ?_) (fun i hi => ?_), hW', hE⟩
  · rw [Lim_ρ, hρ]
  · rw [Lim_ρ, hρ]; exact hcz
  · rw [Lim_N]; exact Nat.lt_succ_self _
  · simp at hfit ⊢; omega
  · rw [hget]
    have hil : i < cs.length + ys.length := by simpa using hi
    by_cases hlt : i < cs.length
    · rw [if_pos (by omega), hold i hlt]; exact g1 i hlt
    · rw [if_neg (by omega), if_pos (by omega)]
      have : (s.ρ r).base + i - ((s.ρ r).base + n * z) < news.length := by omega
      rw [List.getD, List.getElem?_eq_getElem this]
      exact h1 _ (List.getElem_mem _)
  · rw [hget]
    have hil : i < cs.length + ys.length := by simpa using hi
    by_cases hlt : i < cs.length
    · rw [if_pos (by omega), hold i hlt, List.getElem_append_left hlt]; exact (hv' i hlt).ext hE
    · rw [if_neg (by omega), if_pos (by omega), List.getElem_append_right (by omega)]
      have e1 : (s.ρ r).base + i - ((s.ρ r).base + n * z) = i - cs.length := by omega
      rw [e1]
      exact (hnv (i - cs.length) (by omega)).ext hE
  · have hil : i < cs.length + ys.length := by simpa using hi
    intro q x hq hb
    rw [push_get] at hq
    split at hq
    · rename_i he
      have hqn : q = s.σ.next := he
      subst hqn
      cases hq
      rw [hρ]; simp only; omega
    · rename_i he
      have hqn : q ≠ s.σ.next := he
      simp only [GH.del, Heap.del_get] at hq
      split at hq
      · cases hq
      · rename_i hqr
        have : s'.ρ q = s.ρ q := mv_ρ_old _ _ _ _ hqn
        rw [this] at hb
        exact absurd hb (hW.inj' hσ hq hqr)

/-- A row with cells that grows in its place, as a new object that begins where the row begins. -/
theorem room_row {w : World} {s : GH} (hW : W s w) {e : TypeId} {n m r off c z : Nat} {cs ys : List D} {news : List Value} {arr : Array Value}
    (hσ : s.σ.get r = some (.cells e cs)) (ha : w.heap[(s.ρ r).blk]? = some (.cells arr e (0, 0))) (hcz : off + c * z = (s.ρ r).cap) (hcl : off + n * z ≤ cs.length) (hyl : ys.length = m * z)
    (hroom : n + m ≤ c) (hn : Vs w (Lim s) news.toArray ys) :
    let w' := w.setRow (s.ρ r).blk (arr.toList.take ((s.ρ r).base + off + n * z) ++ news ++ arr.toList.drop ((s.ρ r).base + off + n * z + news.length)).toArray
    let s' := (s.del r).push (.cells e ((cs.drop off).take (n * z) ++ ys)) ⟨(s.ρ r).blk, (s.ρ r).base + off, (s.ρ r).cap - off⟩
    W s' w' ∧ Ext w s w' s' := by
  intro w' s'
  obtain ⟨arr', h1, h2, h3, h4, h5⟩ := hW.obj r _ hσ
  rw [ha] at h1
  cases h1
  have hnl : news.length = ys.length := by simpa using hn.1
  have hrm : (n + m) * z ≤ c * z := Nat.mul_le_mul_right _ hroom
  have hnm : n * z + m * z = (n + m) * z := (Nat.add_mul _ _ _).symm
  have hfit : (s.ρ r).base + off + n * z + news.length ≤ arr.toList.length := by simp; omega
  have hnew : w'.heap[(s.ρ r).blk]? = some (.cells (arr.toList.take ((s.ρ r).base + off + n * z) ++ news ++ arr.toList.drop ((s.ρ r).base + off + n * z + news.length)).toArray e (0, 0)) := setRow_same w _ _ arr e (0, 0) ha
  have hl1 : ((cs.drop off).take (n * z)).length = n * z := by simp; omega
  refine move_W (w' := w') hW hσ rfl (by simp [w', World.setRow]) rfl rfl rfl (fun b hb => setRow_other w _ _ b hb) (fun i v hL hc => (hL r _ hσ rfl).elim) (fun hE => ⟨(arr.toList.take ((s.ρ r).base + off + n * z) ++ news ++ arr.toList.drop ((s.ρ r).base + off + n * z + news.length)).toArray, ?_, ?_, ?_, ?_, fun i hi => ?_⟩)
  · rw [mv_ρ_new]; exact hnew
  · rw [mv_ρ_new]; simp only [List.length_append, hl1, hyl]; omega
  · rw [mv_ρ_new]; simp at hfit ⊢; omega
  · intro i hi
    rw [mv_ρ_new, getD_toArray]
    have e1 := getD_splice arr.toList ((s.ρ r).base + off + n * z) news undef hfit ((s.ρ r).base + off + i)
    have hil : i < n * z + ys.length := by simpa [hl1] using hi
    by_cases hlt : i < n * z
    · have := h4 (off + i) (by omega)
      rw [e1, if_pos (by omega)]
      have e2 : (s.ρ r).base + off + i = (s.ρ r).base + (off + i) := by omega
      rw [e2]
      simpa [List.getD] using this
    · rw [e1, if_neg (by omega), if_pos (by omega)]
      have hlt2 : (s.ρ r).base + off + i - ((s.ρ r).base + off + n * z) < news.length := by omega
      rw [List.getD, List.getElem?_eq_getElem hlt2]
      exact hn.2.1 _ (by simp)
  · rw [mv_ρ_new, getD_toArray]
    have e1 := getD_splice arr.toList ((s.ρ r).base + off + n * z) news undef hfit ((s.ρ r).base + off + i)
    have hil : i < n * z + ys.length := by simpa [hl1] using hi
    by_cases hlt : i < n * z
    · have := (h5 (off + i) (by omega)).ext hE
      rw [e1, if_pos (by omega), List.getElem_append_left (by omega)]
      have e2 : (s.ρ r).base + off + i = (s.ρ r).base + (off + i) := by omega
      rw [e2]
      simpa [List.getD] using this
    · rw [e1, if_neg (by omega), if_pos (by omega), List.getElem_append_right (by omega)]
      have e2 : (s.ρ r).base + off + i - ((s.ρ r).base + off + n * z) = i - n * z := by omega
      have := (hn.2.2 (i - n * z) (by omega)).ext hE
      simp only [e2, hl1]
      simpa [List.getD] using this

theorem appendR_ok {Z : Sys} {ann : Nat} {ts : Array TypeId} {ty : TypeId} {x y d : D} {s : GH} {f : Eff} {w : World} {u v : Value} (hW : W s w) (hx : V w (Lim s) u x) (hy : V w (Lim s) v y) (h : appendR Z ann s.σ.get s.σ.next ts x y = some (d, f)) :
    EOK Z.P (Builtin.append_ ts ty #[u, v]) w s d f := by
  unfold appendR at h
  split at h
  · rename_i t t2 hts
    have hts' : ts = #[t, t2] := by apply Array.ext'; simpa using hts
    subst hts'
    split at h
    · cases h
    · rename_i it hit
      split at h
      · rename_i e hd
        split at h
        · cases h
        · rename_i ie hie
          split at h
          · cases h
          · rename_i m ys hfed
            split at h
            · rename_i hc0
              obtain ⟨hs, hzs, hz1⟩ := hc0
              obtain ⟨hu, inf, hinf, hsz, hbt, hz⟩ := Z.out hit
              obtain ⟨hu', inf', hinf', hsz', hbt', hz'⟩ := Z.out hie
              obtain ⟨news, hF, h1, hnl, hyl, hnv⟩ := fedBy_ok hW hy hfed hs
              have hd2 : ∃ d2, Z.P.underlying t2 = some d2 ∧ NotInt d2 := by
                unfold fedBy at hfed
                split at hfed
                · cases hfed
                · rename_i i2 hi2
                  refine ⟨i2.d, (Z.out hi2).1, ?_⟩
                  split at hfed
                  · rename_i e2 _ _ _ hd2; exact .inl ⟨e2, hd2⟩
                  · rename_i e2 _ _ _ _ _ hd2; exact .inl ⟨e2, hd2⟩
                  · rename_i _ hd2; exact .inr hd2
                  · cases hfed
              obtain ⟨d2, hu2, hd2⟩ := hd2
              have hue : Z.P.underlying t = some (.slice e) := hd ▸ hu
              have hF' : Feeds Z.P w.heap inf'.size v m news := by rw [hsz']; exact hF
              have zcase : m = 0 → ∀ A n c, n ≤ c → (Builtin.append_ #[t, t2] ty #[.slice A n c, v]).run Z.P w = .ok (.slice A n c) w := fun hm A n c hn => by
                subst hm
                have hnil : news = [] := by
                  have : news.length = 0 := by rw [hnl, hyl]; simp
                  exact List.length_eq_zero_iff.1 this
                subst hnil
                exact run_app_zero hue hu2 hd2 hinf' hF' A n c hn
              -- a new block
              have grows : ∀ (A : Option Addr) (n c : Nat) (cs : List D) (o : AO) (s0 : GH), c < n + m → (n + m) * ie.bytes ≤ 140737488355328 → n + m ≤ big → s0.σ.next = s.σ.next → s0.ρ = s.ρ → (∀ r x, s0.σ.get r = some x → s.σ.get r = some x) →
                  (o = .tip e (cs.length + ys.length) ∨ o = .cells e (cs ++ ys)) → (∃ olds : List Value, Feeds Z.P w.heap ie.size (.slice A n c) n olds ∧ (∀ u ∈ olds, u.oneCell' = true) ∧ olds.length = cs.length ∧ cs.length = n * ie.size ∧ ∀ i (h : i < cs.length), V w (Lim s) (olds.getD i undef) cs[i]) →
                  ∀ d, (d = .sl (.tip s.σ.next ie.size) (n + m) (cs ++ ys) ∧ o = .tip e (cs.length + ys.length) ∨ d = .row s.σ.next 0 (n + m) none ie.size) →
                  ∃ v' w' s', (Builtin.append_ #[t, t2] ty #[.slice A n c, v]).run Z.P w = .ok v' w' ∧ s'.σ = s0.σ.new o ∧ V w' (Lim s') v' d ∧ W s' w' ∧ Ext w s w' s' := fun A n c cs o s0 hgt hby hnm hσ hρ h0 ho ⟨olds, hof, ho1, hol, hcl, hov⟩ d hdd => by
                have hby' : (n + m) * inf'.bytes ≤ 140737488355328 := by rw [hbt']; exact hby
                have h63 : ((n + m : Nat) : Int) ≤ 9223372036854775807 := by unfold big at hnm; omega
                have hrun := run_app_grow (P := Z.P) (ty := ty) hue hu2 hd2 hinf' hz' hF' A n c hgt (olds := olds) (fun w' hw' => by rw [hsz']; exact hof.2 w' hw') h63 hby'
                obtain ⟨q1, q2, arr, q3, q4, q5, q6⟩ := grown_new (c := c) hW hzs hz1 hσ hρ h0 o ho hol hnl hcl hyl ho1 h1 hov hnv
                refine ⟨_, _, _, hrun, rfl, ?_, q1, q2⟩
                have hge := grownCap_ge w (n + m) c e
                have hle := grownCap_le w (n + m) c e hnm
                rcases hdd with ⟨rfl, rfl⟩ | rfl
                · refine V_new (.tip s.σ.next ie.size) (n + m) _ hge hle ⟨?_, ?_, ?_⟩ q3 ?_ (fun i hi => by rw [Nat.zero_add]; exact q5 i hi) (fun i hi => by simp only [Nat.zero_add]; exact q6 i hi) (fun i hi => ?_)
                  · rw [Lim_ρ, ← hσ, push_ρ_new]
                  · rw [Lim_ρ, ← hσ, push_ρ_new]
                  · rw [Lim_N, ← hσ]; exact Nat.lt_succ_self _
                  · rw [q4]; simp; rw [hcl, hyl, ← Nat.add_mul]; exact Nat.mul_le_mul_right _ hge
                  · intro q x hq hb
                    rw [push_get] at hq
                    split at hq
                    · rename_i he
                      subst he
                      cases hq
                      rw [push_ρ_new]; simpa using hi
                    · rename_i he
                      rw [push_ρ_old _ _ _ he, hρ] at hb
                      have := hW.blk (h0 q x hq)
                      omega
                · rw [← hσ]
                  exact new_row hge hle (by simp [CapOK]) rfl
              split at h
              · rename_i o n cs
                split at h
                · rename_i hc1
                  obtain ⟨hcl, hby, hnm⟩ := hc1
                  cases hx with
                  | sl _ _ c A _ us hn hb ho g1 hc hv =>
                  have hx' : V w (Lim s) (.slice A n c) (.sl o n cs) := .sl o n c A cs us hn hb ho g1 hc hv
                  split at h
                  · rename_i hm
                    cases h
                    exact EOK.pure hW (zcase hm A n c hn) hx'
                  · rename_i hm
                    have hlist := list_of hx' hs hcl Z.P
                    have full : c < n + m → (if ann = 1 then some (D.row s.σ.next 0 (n + m) none ie.size, Eff.new (.cells e (cs ++ ys))) else some (.sl (.tip s.σ.next ie.size) (n + m) (cs ++ ys), .new (.tip e (cs.length + ys.length)))) = some (d, f) →
                        EOK Z.P (Builtin.append_ #[t, t2] ty #[.slice A n c, v]) w s d f := fun hgt h => by
                      split at h
                      · cases h
                        exact grows A n c cs _ s hgt hby hnm rfl rfl (fun _ _ h => h) (.inr rfl) hlist _ (.inr rfl)
                      · cases h
                        exact grows A n c cs _ s hgt hby hnm rfl rfl (fun _ _ h => h) (.inl rfl) hlist _ (.inl ⟨rfl, rfl⟩)
                    cases o with
                    | no => simp at h
                    | nil => obtain ⟨rfl, rfl, rfl⟩ := ho; exact full (by omega) h
                    | full => obtain ⟨_, rfl⟩ := ho; exact full (by omega) h
                    | tip r z =>
                      simp only at h
                      split at h
                      · rename_i e' k hr
                        split at h
                        · rename_i hc2
                          obtain ⟨rfl, rfl, rfl⟩ := hc2
                          cases h
                          obtain ⟨rfl, hcz, hlt⟩ := ho
                          rw [Lim_ρ] at hcz hx' ⊢
                          obtain ⟨arr, ha, hxa, hta⟩ := hW.obj r _ hr
                          by_cases hroom : n + m ≤ c
                          · have hrm : (n + m) * ie.size ≤ (s.ρ r).cap := by rw [← hcz]; exact Nat.mul_le_mul_right _ hroom
                            have hnm2 : n * ie.size + m * ie.size = (n + m) * ie.size := (Nat.add_mul _ _ _).symm
                            have hrun := run_app_room (P := Z.P) (ty := ty) hue hu2 hd2 hinf' hF' h1 _ (s.ρ r).base n c arr ha hroom (by rw [hsz']; omega)
                            rw [hsz'] at hrun
                            obtain ⟨q1, q2, q3⟩ := room_tip hW hr ha hta hcz hcl hyl hnl hroom hb (hW.lt r _ hr) h1 hnv hx'
                            exact ⟨_, _, _, hrun, rfl, q1, q2, q3⟩
                          · exact grows _ n c cs _ (s.del r) (by omega) hby hnm rfl rfl (HLe.del s.σ r).get (.inl rfl) (by rw [Lim_ρ] at hlist; exact hlist) _ (.inl ⟨rfl, rfl⟩)
                        · cases h
                      · cases h
                · cases h
              · rename_i r off n c z
                split at h
                · rename_i e' cs hr
                  split at h
                  · rename_i hc1
                    obtain ⟨rfl, rfl, hoff, hby, hnm⟩ := hc1
                    cases hx with
                    | row _ _ _ _ _ a c' hlt hn hb hf ha =>
                    have hx' : V w (Lim s) (.slice (some a) n c') (.row r off n c ie.size) := .row r off n c ie.size a c' hlt hn hb hf ha
                    rw [Lim_ρ] at hf ha
                    obtain ⟨arr, har, hcap, hbc, hone, hvs⟩ := hW.obj r _ hr
                    have hmul : ∀ p q, p ≤ q → p * ie.size ≤ q * ie.size := fun p q hpq => Nat.mul_le_mul_right _ hpq
                    have hnm2 : n * ie.size + m * ie.size = (n + m) * ie.size := (Nat.add_mul _ _ _).symm
                    split at h
                    · rename_i hm
                      cases h
                      exact EOK.pure hW (zcase hm _ n c' hn) hx'
                    · rename_i hm
                      have hlist : ∃ olds : List Value, Feeds Z.P w.heap ie.size (.slice (some a) n c') n olds ∧ (∀ u ∈ olds, u.oneCell' = true) ∧ olds.length = ((cs.drop off).take (n * ie.size)).length ∧ ((cs.drop off).take (n * ie.size)).length = n * ie.size ∧ ∀ i (h : i < ((cs.drop off).take (n * ie.size)).length), V w (Lim s) (olds.getD i undef) ((cs.drop off).take (n * ie.size))[i] := by
                        obtain ⟨us, g1, g2, g3⟩ := row_cells (n := n) (c' := c') hW hr ha hoff (fun hp => by
                          have : 0 < n := Nat.pos_of_mul_pos_right hp
                          omega)
                        exact fed_cells hs (by simp; omega) g1 g2 g3
                      have hVs : Vs w (Lim s) news.toArray ys := ⟨by simpa using hnl, by simpa using h1, fun i hi => by rw [getD_toArray]; exact hnv i hi⟩
                      -- in its place
                      have inplace : n + m ≤ c' → off + (n + m) * ie.size ≤ cs.length → EOK Z.P (Builtin.append_ #[t, t2] ty #[.slice (some a) n c', v]) w s (.row r off (n + m) c ie.size) (.put r (.cells e' (splice cs (off + n * ie.size) ys))) := fun hroom hfit => by
                        obtain rfl := ha (by omega)
                        have hrun := run_app_room (P := Z.P) (ty := ty) hue hu2 hd2 hinf' hF' h1 _ ((s.ρ r).base + off) n c' arr har hroom (by rw [hsz']; omega)
                        rw [hsz'] at hrun
                        obtain ⟨hE, hW'⟩ := set_cells (off := off + n * ie.size) hW hr har hVs (by omega)
                        refine ⟨.slice (some ⟨(s.ρ r).blk, (s.ρ r).base + off, none⟩) (n + m) c', _, s.put r _, ?_, rfl, ?_, hW', hE⟩
                        · rw [hrun]
                          simp only [Nat.add_assoc]
                        · exact .row r off (n + m) c ie.size _ c' hlt hroom hb (by rw [Lim_ρ]; exact hf) (fun _ => rfl)
                      have anew : ∀ s0 : GH, s0.σ.next = s.σ.next → s0.ρ = s.ρ → (∀ r x, s0.σ.get r = some x → s.σ.get r = some x) → c' < n + m →
                          ∃ v' w' s', (Builtin.append_ #[t, t2] ty #[.slice (some a) n c', v]).run Z.P w = .ok v' w' ∧ s'.σ = s0.σ.new (.cells e' ((cs.drop off).take (n * ie.size) ++ ys)) ∧ V w' (Lim s') v' (.row s.σ.next 0 (n + m) none ie.size) ∧ W s' w' ∧ Ext w s w' s' :=
                        fun s0 e1 e2 e3 hgt => grows (some a) n c' ((cs.drop off).take (n * ie.size)) _ s0 hgt hby hnm e1 e2 e3 (.inr rfl) hlist _ (.inr rfl)
                      split at h
                      · rename_i k
                        obtain ⟨rfl, hk⟩ := hf
                        split at h
                        · rename_i hroom
                          split at h
                          · rename_i hfit; cases h; exact inplace hroom hfit
                          · cases h
                        · rename_i hroom
                          cases h
                          exact anew s rfl rfl (fun _ _ h => h) (by omega)
                      · simp only [CapOK] at hf
                        split at h
                        · rename_i hfit
                          cases h
                          refine inplace ?_ hfit
                          have : (n + m) * ie.size ≤ c' * ie.size := by omega
                          exact Nat.le_of_mul_le_mul_right this hs
                        · cases h
                          by_cases hroom : n + m ≤ c'
                          · obtain rfl := ha (by omega)
                            have hrm := hmul _ _ hroom
                            have hrun := run_app_room (P := Z.P) (ty := ty) hue hu2 hd2 hinf' hF' h1 _ ((s.ρ r).base + off) n c' arr har hroom (by rw [hsz']; omega)
                            rw [hsz'] at hrun
                            obtain ⟨q1, q2⟩ := room_row hW hr har hf hoff hyl hroom hVs
                            refine ⟨_, _, _, hrun, rfl, ?_, q1, q2⟩
                            refine .row _ 0 (n + m) none ie.size _ c' ?_ hroom hb ?_ fun _ => ?_
                            · rw [Lim_N]; exact Nat.lt_succ_self _
                            · rw [Lim_ρ, mv_ρ_new]; simp only [CapOK]; omega
                            · rw [Lim_ρ, mv_ρ_new]; rfl
                          · exact anew (s.del r) rfl rfl (HLe.del s.σ r).get (by omega)
                  · cases h
                · cases h
              · cases h
            · cases h
      · cases h
  · cases h

/-- The first cells of what is read. -/
def Feeds' (P : Program) (w : World) (size : Nat) (x : Value) (k : Nat) (news : List Value) : Prop := (Builtin.firstCells size k x).run P w = .ok news.toArray w

theorem setRow_id {w : World} {b : Nat} {arr : Array Value} {e : TypeId} (h : w.heap[b]? = some (.cells arr e (0, 0))) : w.setRow b arr = w := by
  have hm : w.heap.modify b (fun o => match o with | .cells _ e fr => .cells arr e fr | o => o) = w.heap := by
    apply Array.ext
    · simp
    · intro i h1 h2
      rw [Array.getElem_modify]
      split
      · rename_i hi
        subst hi
        have := (Array.getElem?_eq_some_iff.1 h).2
        rw [this]
      · rfl
  unfold World.setRow
  exact congrArg (fun h => { w with heap := h }) hm

def copyR (Z : Sys) (g : Nat → Option AO) (ts : Array TypeId) (x y : D) : Option (D × Eff) :=
  match ts[0]?, x with
  | some t, .row r off n c z => (match (Z.T t).map TInfo.d with
    | some (.slice e) => (match (Z.T e).map TInfo.size, g r with
      | some size, some (.cells e' cs) =>
        if size = z ∧ 0 < z ∧ off + n * z ≤ cs.length then
          (match y with
          | .sl _ m ys => if ys.length = m * z then some (.int .i64 (Nat.min m n : Nat), .put r (.cells e' (splice cs off (ys.take (Nat.min m n * z))))) else none
          | .row r2 off2 m _ _ => (match g r2 with
            | some (.cells _ ds) => if off2 + m * z ≤ ds.length then some (.int .i64 (Nat.min m n : Nat), .put r (.cells e' (splice cs off ((ds.drop off2).take (Nat.min m n * z))))) else none
            | _ => none)
          | _ => none)
        else none
      | _, _ => none)
    | _ => none)
  | _, _ => none

theorem copyR_ok {Z : Sys} {ts : Array TypeId} {ty : TypeId} {x y d : D} {s : GH} {f : Eff} {w : World} {u v : Value} (hW : W s w) (hx : V w (Lim s) u x) (hy : V w (Lim s) v y) (h : copyR Z s.σ.get ts x y = some (d, f)) :
    EOK Z.P (Builtin.copy_ ts ty #[u, v]) w s d f := by
  unfold copyR at h
  split at h
  · rename_i t r off n c z ht
    split at h
    · rename_i e hTd
      split at h
      · rename_i size e' cs hsz hr
        split at h
        · rename_i hc0
          obtain ⟨rfl, hz0, hfit⟩ := hc0
          obtain ⟨it, hit, hd⟩ : ∃ it, Z.T t = some it ∧ it.d = .slice e := by
            cases hT : Z.T t with
            | none => rw [hT] at hTd; cases hTd
            | some it => rw [hT] at hTd; exact ⟨it, rfl, by simpa using hTd⟩
          obtain ⟨ie, hie, rfl⟩ : ∃ ie, Z.T e = some ie ∧ ie.size = size := by
            cases hT : Z.T e with
            | none => rw [hT] at hsz; cases hsz
            | some ie => rw [hT] at hsz; exact ⟨ie, rfl, by simpa using hsz⟩
          obtain ⟨hu, inf, hinf, hs, hb, hz⟩ := Z.out hit
          obtain ⟨hu', inf', hinf', hs', hb', hz'⟩ := Z.out hie
          cases hx with
          | row _ _ _ _ _ a c' hlt hn hb0 hf ha =>
          rw [Lim_ρ] at hf ha
          obtain ⟨arr, har, hcap, hbc, hone, hvs⟩ := hW.obj r _ hr
          have fin : ∀ (m : Nat) (zs : List D) (news : List Value), (Builtin.lenOf v).run Z.P w = .ok m w → Feeds' Z.P w ie.size v (Nat.min m n) news → (∀ u ∈ news, u.oneCell' = true) → news.length = zs.length → zs.length = Nat.min m n * ie.size →
              (∀ i (h : i < zs.length), V w (Lim s) (news.getD i undef) zs[i]) → EOK Z.P (Builtin.copy_ ts ty #[.slice (some a) n c', v]) w s (.int .i64 (Nat.min m n : Nat)) (.put r (.cells e' (splice cs off zs))) := fun m zs news hlen hF h1 hnl hzl hnv => by
            have hmn : Nat.min m n * ie.size ≤ n * ie.size := Nat.mul_le_mul_right _ (Nat.min_le_right _ _)
            have hVs : Vs w (Lim s) news.toArray zs := ⟨by simpa using hnl, by simpa using h1, fun i hi => by rw [getD_toArray]; exact hnv i hi⟩
            obtain ⟨hE, hW'⟩ := set_cells (off := off) hW hr har hVs (by omega)
            refine ⟨.int .i64 (Nat.min m n : Nat), _, s.put r _, ?_, rfl, .int _ _, hW', hE⟩
            have hcells : (Builtin.firstCells ie.size (Nat.min m n) v).run Z.P w = .ok news.toArray w := hF
            rcases Nat.eq_zero_or_pos c' with h0 | h0
            · have hn0 : n = 0 := by omega
              have hm0 : Nat.min m n = 0 := by rw [hn0]; exact Nat.min_zero _
              have hnil : news = [] := List.eq_nil_of_length_eq_zero (by rw [hnl, hzl, hm0]; simp)
              subst hnil
              have hsame : w.setRow (s.ρ r).blk (arr.toList.take ((s.ρ r).base + off) ++ ([] : List Value).toArray.toList ++ arr.toList.drop ((s.ρ r).base + off + ([] : List Value).toArray.toList.length)).toArray = w := by
                have e1 : (arr.toList.take ((s.ρ r).base + off) ++ ([] : List Value).toArray.toList ++ arr.toList.drop ((s.ρ r).base + off + ([] : List Value).toArray.toList.length)).toArray = arr := by simp
                rw [e1]
                exact setRow_id har
              rw [hsame]
              simp [Builtin.copy_, ht, run_underlying hu, hd, hlen, sizeOf, typeInfo, hinf', hs', hcells, storeCells, goInt]
            · obtain rfl := ha h0
              have hst := run_storeCells_at Z.P (s.ρ r).blk ((s.ρ r).base + off) e' news 0 arr w har (by simp; omega) h1
              simp only [Nat.add_zero] at hst
              simp [Builtin.copy_, ht, run_underlying hu, hd, hlen, sizeOf, typeInfo, hinf', hs', hcells, hst, goInt]
          split at h
          · rename_i o m ys
            split at h
            · rename_i hyl
              cases h
              cases hy with
              | sl _ _ cy A _ us hny hby hoy g1 hcy hvy =>
              have hk : Nat.min m n * ie.size ≤ ys.length := by rw [hyl]; exact Nat.mul_le_mul_right _ (Nat.min_le_left _ _)
              obtain ⟨news, q1, q2, q3, q4, q5⟩ := fed_cells (P := Z.P) (w := w) (L := Lim s) (m := Nat.min m n) (c := cy) (A := A) (ys := ys.take (Nat.min m n * ie.size)) (us := us) hz0 (by simp; omega) (fun i hi => g1 i (by simp at hi; omega)) (fun i hi => by
                obtain ⟨a, ha, h2, _⟩ := hcy i (by simp at hi; omega); exact ⟨a, ha, h2⟩) (fun i hi => by have := hvy i (by simp at hi; omega); simpa using this)
              exact fin m _ news (by simp [Builtin.lenOf]) (by have := q1.2 w rfl; cases A <;> simpa [Feeds', Builtin.firstCells] using this) q2 q3 q4 q5
            · cases h
          · rename_i r2 off2 m c2 z2
            split at h
            · rename_i e2 ds hr2
              split at h
              · rename_i hfit2
                cases h
                cases hy with
                | row _ _ _ _ _ a2 cy hlt2 hn2 hb2 hf2 ha2 =>
                rw [Lim_ρ] at hf2 ha2
                have hmm : Nat.min m n ≤ m := Nat.min_le_left _ _
                have hk : Nat.min m n * ie.size ≤ m * ie.size := Nat.mul_le_mul_right _ hmm
                obtain ⟨us, g1, g2, g3⟩ := row_cells (n := m) (c' := cy) (k := Nat.min m n * ie.size) hW hr2 ha2 (by omega) (fun hp => by
                  have : 0 < Nat.min m n := Nat.pos_of_mul_pos_right hp
                  omega)
                obtain ⟨news, q1, q2, q3, q4, q5⟩ := fed_cells (P := Z.P) (w := w) (L := Lim s) (m := Nat.min m n) (c := cy) (A := some a2) hz0 (by simp; omega) g1 g2 g3
                exact fin m _ news (by simp [Builtin.lenOf]) (by have := q1.2 w rfl; simpa [Feeds', Builtin.firstCells] using this) q2 q3 q4 q5
              · cases h
            · cases h
          · cases h
        · cases h
      · cases h
    · cases h
  · cases h

def clearR (Z : Sys) (g : Nat → Option AO) (ts : Array TypeId) (x : D) : Option Eff :=
  match ts[0]?, x with
  | some t, .row r off n c z => (match (Z.T t).map TInfo.d with
    | some (.slice e) => (match Z.T e, g r with
      | some ie, some (.cells e' cs) => if ie.size = z ∧ 0 < z ∧ off + n * z ≤ cs.length ∧ ie.zeros.all D.one = true ∧ ie.zeros.length = ie.size then some (.put r (.cells e' (splice cs off (litZero ie (n * z))))) else none
      | _, _ => none)
    | _ => none)
  | _, _ => none

theorem clearR_ok {Z : Sys} {ts : Array TypeId} {ty : TypeId} {x : D} {s : GH} {f : Eff} {w : World} {u : Value} (hW : W s w) (hx : V w (Lim s) u x) (h : clearR Z s.σ.get ts x = some f) :
    EOK Z.P (Builtin.clear_ ts ty #[u]) w s (.tup []) f := by
  unfold clearR at h
  split at h
  · rename_i t r off n c z ht
    split at h
    · rename_i e hTd
      split at h
      · rename_i ie e' cs hie hr
        split at h
        · rename_i hc0
          obtain ⟨rfl, hz0, hfit, hz1, hzl⟩ := hc0
          cases h
          obtain ⟨it, hit, hd⟩ : ∃ it, Z.T t = some it ∧ it.d = .slice e := by
            cases hT : Z.T t with
            | none => rw [hT] at hTd; cases hTd
            | some it => rw [hT] at hTd; exact ⟨it, rfl, by simpa using hTd⟩
          obtain ⟨hu, inf, hinf, hs, hb, hz⟩ := Z.out hit
          obtain ⟨hu', inf', hinf', hs', hb', hz'⟩ := Z.out hie
          cases hx with
          | row _ _ _ _ _ a c' hlt hn hb0 hf ha =>
          rw [Lim_ρ] at hf ha
          obtain ⟨arr, har, hcap, hbc, hone, hvs⟩ := hW.obj r _ hr
          have hzc : ie.zero.cells.size = ie.size := by rw [← hzl]; simp [TInfo.zeros]
          have hVs := litZero_ok w (Lim s) ie (n * ie.size) hz1 hzl hz0
          have hll : (litZero ie (n * ie.size)).length = n * ie.size := by simp [litZero]
          obtain ⟨hE, hW'⟩ := set_cells (off := off) hW hr har hVs (by rw [hll]; exact hfit)
          refine ⟨.tuple #[], _, s.put r _, ?_, rfl, .tup _ _ rfl (fun i hi => absurd hi (by simp)), hW', hE⟩
          have hmk : (Array.range (n * ie.size)).map (fun j => ie.zero.cells[j % ie.zero.cells.size]!) = Builtin.zeroCells ie.zero.cells n := by
            unfold Builtin.zeroCells; rw [hzc]
          rw [hmk]
          rcases Nat.eq_zero_or_pos n with h0 | h0
          · subst h0
            have e0 : (Builtin.zeroCells ie.zero.cells 0).toList = [] := by simp [Builtin.zeroCells]
            have hsame : w.setRow (s.ρ r).blk (arr.toList.take ((s.ρ r).base + off) ++ (Builtin.zeroCells ie.zero.cells 0).toList ++ arr.toList.drop ((s.ρ r).base + off + (Builtin.zeroCells ie.zero.cells 0).toList.length)).toArray = w := by
              rw [e0]
              have e1 : (arr.toList.take ((s.ρ r).base + off) ++ ([] : List Value) ++ arr.toList.drop ((s.ρ r).base + off + ([] : List Value).length)).toArray = arr := by simp
              rw [e1]
              exact setRow_id har
            rw [hsame]
            simp [Builtin.clear_, ht, run_underlying hu, hd]
          · obtain rfl := ha (by omega)
            have hst := run_storeCells_at Z.P (s.ρ r).blk ((s.ρ r).base + off) e' (Builtin.zeroCells ie.zero.cells n).toList 0 arr w har (by simp [Builtin.zeroCells, hzc]; omega) (fun v hv => hVs.2.1 v (by rw [hmk]; exact hv))
            simp only [Nat.add_zero] at hst
            obtain ⟨n', rfl⟩ : ∃ k, n = k + 1 := ⟨n - 1, by omega⟩
            simp [Builtin.clear_, ht, run_underlying hu, hd, zeroValue, typeInfo, hinf', hz', hst]
        · cases h
      · cases h
    · cases h
  · cases h

def appendP (Z : Sys) (g : Nat → Option AO) (nx : Nat) (ts : Array TypeId) (x y : D) : Option (D × Eff) :=
  match appendR Z 0 g nx ts x y with
  | some (.sl o n cs, e) => (match e, o with
    | .keep, .tip r _ => some (.sl .no n cs, .kill r)
    | .keep, _ => some (.sl .no n cs, .keep)
    | .new _, _ => some (.sl .no n cs, .keep)
    | .move q _, _ => some (.sl .no n cs, .kill q)
    | _, _ => none)
  | _ => none

theorem fedBy_bel {Z : Sys} {g : Nat → Option AO} {t2 : TypeId} {size m N : Nat} {y : D} {ys : List D} (h : fedBy Z g t2 size y = some (m, ys)) (hy : Bel N y) (hg : ∀ r o, g r = some o → o.Bel N) : ∀ d ∈ ys, Bel N d := by
  unfold fedBy at h
  split at h
  · cases h
  · split at h
    · split at h
      · cases h
        cases hy with
        | sl _ _ _ _ hb => exact hb
      · cases h
    · split at h
      · rename_i hr
        split at h
        · cases h
          intro d hd
          exact hg _ _ hr d (List.mem_of_mem_drop (List.mem_of_mem_take hd))
        · cases h
      · cases h
    · split at h
      · cases h
        intro d hd
        obtain ⟨b, _, rfl⟩ := List.mem_map.1 hd
        exact .int _ _
      · cases h
    · cases h

theorem appendR_bel {Z : Sys} {ann : Nat} {g : Nat → Option AO} {nx n N : Nat} {ts : Array TypeId} {x y : D} {o : Own} {cs : List D} {e : Eff} (h : appendR Z ann g nx ts x y = some (.sl o n cs, e)) (hx : Bel N x) (hy : Bel N y) (hg : ∀ r o, g r = some o → o.Bel N) : ∀ d ∈ cs, Bel N d := by
  unfold appendR at h
  split at h
  · split at h
    · cases h
    · split at h
      · split at h
        · cases h
        · split at h
          · cases h
          · rename_i m ys hf
            have hys := fedBy_bel hf hy hg
            split at h
            · split at h
              · rename_i o0 n0 cs0
                have hb : ∀ d ∈ cs0, Bel N d := by cases hx; assumption
                have hcat : ∀ d ∈ cs0 ++ ys, Bel N d := fun d hd => by
                  rcases List.mem_append.1 hd with hd | hd
                  · exact hb d hd
                  · exact hys d hd
                split at h
                · split at h
                  · cases h; exact hb
                  · split at h
                    · split at h
                      · split at h
                        · cases h; exact hcat
                        · cases h
                      · cases h
                    · cases h
                    · split at h
                      · cases h
                      · cases h; exact hcat
                · cases h
              · split at h
                · split at h
                  · split at h
                    · cases h
                    · split at h
                      · split at h
                        · split at h <;> cases h
                        · cases h
                      · split at h <;> cases h
                  · cases h
                · cases h
              · cases h
            · cases h
      · cases h
  · cases h

theorem appendP_ok {Z : Sys} {ts : Array TypeId} {ty : TypeId} {x y d : D} {s : GH} {f : Eff} {w : World} {u v : Value} (hW : W s w) (hx : V w (Lim s) u x) (hy : V w (Lim s) v y) (h : appendP Z s.σ.get s.σ.next ts x y = some (d, f)) :
    EOK Z.P (Builtin.append_ ts ty #[u, v]) w s d f := by
  unfold appendP at h
  split at h
  · rename_i o n cs e he
    obtain ⟨v1, w1, s1, hr, hσ, hV, hW1, hE⟩ := appendR_ok (ty := ty) hW hx hy he
    have hb : ∀ d ∈ cs, Bel s.σ.next d := appendR_bel he hx.bel hy.bel hW.closed.ok
    have fin : ∀ σ2 : Heap, HLe σ2 s1.σ → HLe σ2 s.σ → σ2.next = s.σ.next → ∃ s2 : GH, s2.σ = σ2 ∧ V w1 (Lim s2) v1 (.sl .no n cs) ∧ W s2 w1 ∧ Ext w s w1 s2 := fun σ2 h1 h2 h3 => by
      have hc : Closed σ2 := ⟨fun q o hq => by rw [h3]; exact hW.lt q o (h2.get q o hq), fun q o hq => by rw [h3]; exact hW.closed.ok q o (h2.get q o hq)⟩
      refine ⟨⟨σ2, s1.ρ⟩, rfl, ?_, hW1.less h1 hc, hE.less h1 (by rw [h3]; exact Nat.le_refl _)⟩
      cases hV with
      | sl _ _ c A _ us hn hbg hok g1 hc' hv =>
        refine .sl .no n c A cs us hn hbg ?_ g1 (fun i hi => ?_) (fun i hi => (hv i hi).less h1 (by rw [h3]; exact hb _ (List.getElem_mem hi)))
        · cases o with
          | nil => exact fun _ => hok.2.1
          | no => exact hok
          | full => intro hA; rw [hA] at hok; exact absurd hok.1 (by simp)
          | tip r z => intro hA; rw [hok.1] at hA; cases hA
        · obtain ⟨a, ha, q1, q2⟩ := hc' i hi
          exact ⟨a, ha, q1, Lim_less h1 q2⟩
    have out : ∀ e2 : Eff, HLe (s.σ.app e2) s1.σ → HLe (s.σ.app e2) s.σ → (s.σ.app e2).next = s.σ.next → EOK Z.P (Builtin.append_ ts ty #[u, v]) w s (.sl .no n cs) e2 := fun e2 h1 h2 h3 => by
      obtain ⟨s2, q1, q2, q3, q4⟩ := fin _ h1 h2 h3
      exact ⟨v1, w1, s2, hr, q1, q2, q3, q4⟩
    split at h
    · cases h
      exact out _ (by rw [hσ]; exact HLe.del _ _) (HLe.del _ _) rfl
    · cases h
      exact out _ (by rw [hσ]; exact HLe.refl _) (HLe.refl _) rfl
    · cases h
      exact out _ (by rw [hσ]; exact (HLe.refl _).new _ hW.lt) (HLe.refl _) rfl
    · rename_i q o'
      cases h
      have hh : HLe (s.σ.del q) ((s.σ.del q).new o') := (HLe.refl _).new _ fun r x hr => hW.lt r x ((HLe.del s.σ q).get r x hr)
      exact out (.kill q) (by rw [hσ]; exact hh) (HLe.del _ _) rfl
    · cases h
  · cases h
end Go.Proofs.YthchlpikcpidaaaDoor.Vs
