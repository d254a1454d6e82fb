/- The engine 'Dm', part 6: signs, conversions, function values, interfaces, made slices, maps. -/
import Derived.Test.YthchlpikcpidaaaDoorDmOps4
import Derived.WideKeyRuns
import Derived.Laws.Runes
import Derived.Laws.BytesString
import Derived.Lib.ConvBytes
namespace Go.Proofs.YthchlpikcpidaaaDoor.Vs
open Go.RowKit
set_option linter.unusedVariables false
set_option linter.unusedSimpArgs false
def unD (op : UnOp) (x : D) : Option D :=
  match op, x with
  | .not, .bool b => some (.bool (!b))
  | .neg, .int k n => some (.int k (k.wrap (0 - n)))
  | _, _ => none

theorem unD_ok {P : Program} {op : UnOp} {x d : D} {L : Lk} {w : World} {u : Value} (hx : V w L u x) (h : unD op x = some d) : ∃ v, (Op.unary op u).run P w = .ok v w ∧ V w L v d := by
  unfold unD at h
  split at h
  · cases h; cases hx; exact ⟨.bool _, by simp [Op.unary], .bool _⟩
  · cases h; cases hx; exact ⟨.int _ _, by simp [Op.unary, Op.intArith], .int _ _⟩
  · cases h

/-- Cells that are bytes. -/
def bytesD : List D → Option (List Int)
  | [] => some []
  | .int .u8 n :: l => (bytesD l).map (n :: ·)
  | _ => none
def pushB (ns : List Int) : ByteArray := ns.foldl (fun r n => r.push (UInt8.ofNat n.toNat)) ByteArray.empty
theorem bytesD_get : ∀ {cs : List D} {ns : List Int}, bytesD cs = some ns → cs = ns.map (.int .u8 ·)
  | [], _, h => by cases h; rfl
  | c :: cs, ns, h => by
    unfold bytesD at h
    split at h
    · rename_i he; cases he
    · rename_i n l he
      cases he
      cases hb : bytesD cs with
      | none => rw [hb] at h; cases h
      | some ms =>
        rw [hb] at h
        cases h
        rw [bytesD_get hb]
        rfl
    · cases h
theorem push_size (ns : List Int) : ∀ s : ByteArray, (ns.foldl (fun r n => r.push (UInt8.ofNat n.toNat)) s).size = s.size + ns.length := by
  induction ns with
  | nil => intro s; rfl
  | cons n ns ih => intro s; rw [List.foldl_cons, ih, ByteArray.size_push, List.length_cons]; omega
theorem pushB_size (ns : List Int) : (pushB ns).size = ns.length := by
  unfold pushB
  rw [push_size]
  simp

def convD (Z : Sys) (src dst : TypeId) (x : D) : Option D :=
  match Z.T src, Z.T dst with
  | some i, some j =>
    (match i.d, j.d, x with
    | .int _, .int k, .int _ n => some (.int k (k.wrap n))
    | .string, .string, .str s => some (.str s)
    | .string, .slice e, .str s => (match Z.T e with
      | some ie => (match ie.d with
        | .int .u8 => some (.sl .no s.size (s.data.toList.map fun b => .int .u8 b.toNat))
        | _ => none)
      | none => none)
    | .slice e, .string, .sl _ n cs => (match Z.T e with
      | some ie => (match ie.d with
        | .int .u8 => if cs.length = n then (bytesD cs).map fun ns => .str (pushB ns) else none
        | _ => none)
      | none => none)
    | _, _, _ => none)
  | _, _ => none

theorem bytes_below (w : World) (e : TypeId) (b : ByteArray) : Below w.heap.size w (Lib.bytesWorld w e b) := by
  refine ⟨?_, ?_, ?_, ?_, ?_⟩ <;> first
    | rfl
    | (rw [Lib.bytesWorld_size]; exact Nat.le_succ _)
    | exact fun j hj => Lib.bytesWorld_at_old w e b j hj

theorem convD_ok {Z : Sys} {src dst : TypeId} {x d : D} {s : GH} {w : World} {u : Value} (hW : W s w) (hx : V w (Lim s) u x) (h : convD Z src dst x = some d) : EOK Z.P (convert src dst u) w s d .keep := by
  unfold convD at h
  split at h
  · rename_i i j hi hj
    have h1 := run_underlying (Z.out hi).1 w
    have h2 := run_underlying (Z.out hj).1 w
    split at h
    · rename_i k0 k k1 n hd1 hd2
      cases h; cases hx
      exact EOK.pure hW (v := .int k _) (by simp [convert, h1, h2, hd1, hd2, Conv.intToInt]) (.int _ _)
    · rename_i s hd1 hd2
      cases h
      cases hx with
      | str _ hs => exact EOK.pure hW (v := .string s) (by simp [convert, h1, h2, hd1, hd2]) (.str _ hs)
    · rename_i e b hd1 hd2
      split at h
      · rename_i ie hie
        split at h
        · rename_i hd3
          cases h
          cases hx with
          | str _ hs =>
            have hr := Lib.run_convert_string_bytes (P := Z.P) w src dst e b (by rw [(Z.out hi).1, hd1]) (by rw [(Z.out hj).1, hd2]) (by rw [(Z.out hie).1, hd3])
            have hB : Below w.heap.size w (Lib.bytesWorld w e b) := bytes_below w e b
            refine ⟨_, _, s, hr, rfl, ?_, hW.of_below hB, Ext.of_below hW hB⟩
            have hsz : b.data.toList.length = b.size := rfl
            refine .sl .no b.size _ _ _ (fun i => .int .u8 (b.data.toList.getD i 0).toNat) (grownCap_ge w b.size 0 e) (grownCap_le w b.size 0 e hs) (fun hA => by cases hA) (fun i hi => rfl) (fun i hi => ⟨_, rfl, ?_, ?_⟩) (fun i hi => ?_)
            · rw [addr_add, Nat.zero_add]
              exact Lib.bytesWorld_cell w e b i (by simpa using hi)
            · intro r x hr hb
              exact absurd hb (Nat.ne_of_lt (hW.blk hr))
            · have hi' : i < b.data.toList.length := by simpa using hi
              rw [List.getElem_map, List.getD_eq_getElem?_getD, List.getElem?_eq_getElem hi']
              exact .int _ _
        · cases h
      · cases h
    · rename_i e o n cs hd1 hd2
      split at h
      · rename_i ie hie
        split at h
        · rename_i hd3
          split at h
          · rename_i hcn
            cases hb : bytesD cs with
            | none => rw [hb] at h; cases h
            | some ns =>
              rw [hb] at h
              cases h
              have hcs := bytesD_get hb
              subst hcs
              cases hx with
              | sl _ _ c A _ us hn hbg ho h1' hc hv =>
                have hconv := run_convert_bytes_string (P := Z.P) w src dst e A n c (by rw [(Z.out hi).1, hd1]) (by rw [(Z.out hie).1, hd3]) (by rw [(Z.out hj).1, hd2])
                have hlen : ns.length = n := by simpa using hcn
                have hbig : (pushB ns).size ≤ big := by rw [pushB_size]; omega
                cases A with
                | none =>
                  have : ns = [] := by
                    cases ns with
                    | nil => rfl
                    | cons m ms =>
                      obtain ⟨a, ha, _⟩ := hc 0 (by simp)
                      cases ha
                  subst this
                  exact EOK.pure hW (v := .string (pushB [])) (by rw [hconv]; simp [Conv.bytesToString]; rfl) (.str _ hbig)
                | some a =>
                  refine EOK.pure hW (v := .string (pushB ns)) ?_ (.str _ hbig)
                  rw [hconv]
                  refine run_bytesToString w a n c ns ?_
                  have hl := run_loadCells_list (P := Z.P) w a (ns.map (Value.int .u8)) (fun j v hj => by
                    obtain ⟨hjl, hjv⟩ := List.getElem?_eq_some_iff.1 hj
                    have hj' : j < (ns.map (D.int .u8)).length := by simpa using hjl
                    obtain ⟨a', ha', hc', _⟩ := hc j hj'
                    cases ha'
                    rw [hc']
                    have hvj := hv j hj'
                    rw [List.getElem_map] at hvj hjv
                    rw [← hjv]
                    generalize us j = u at hvj
                    cases hvj
                    rfl)
                  rw [List.length_map, hlen] at hl
                  exact hl
          · cases h
        · cases h
      · cases h
    · cases h
  · cases h

def ifaceD (Z : Sys) (t : TypeId) (x : D) : Option D :=
  match Z.T t with
  | some i => (match i.d with
    | .interface _ => none
    | _ => some (.iface t x))
  | none => none

theorem ifaceD_ok {Z : Sys} {t : TypeId} {x d : D} {L : Lk} {w : World} {u : Value} (hx : V w L u x) (h : ifaceD Z t x = some d) : ∃ v, (Instr.makeInterface t u).run Z.P w = .ok v w ∧ V w L v d := by
  unfold ifaceD at h
  split at h
  · rename_i i hi
    have h1 := run_underlying (Z.out hi).1 w
    split at h
    · cases h
    · rename_i hn
      cases h
      refine ⟨.iface t u, ?_, .iface t u x hx⟩
      cases hd : i.d <;> first
        | exact absurd hd (hn _)
        | simp [Instr.makeInterface, h1, hd]
  · cases h

theorem new_map {w' : World} {s : GH} {o : AO} {l : Loc} : V w' (Lim (s.push o l)) (.map (some l.blk)) (.map s.σ.next) := by
  have := V.map (w := w') (L := Lim (s.push o l)) s.σ.next (by rw [Lim_N]; simp [GH.push, Heap.new])
  rwa [Lim_ρ, push_ρ_new] at this

theorem makeMap_ok {P : Program} {t : TypeId} {s : GH} {w : World} (hW : W s w) (res : Option Value) (hres : res = none) : EOK P (Instr.makeMap t res) w s (.map s.σ.next) (.new (.map [] 0)) := by
  subst hres
  obtain ⟨hW', hE⟩ := new_obj hW (.map #[] 0) (.map [] 0) ⟨w.heap.size, 0, 0⟩ rfl fun hE => ⟨#[], by rw [push_ρ_new]; exact alloc_new w _, rfl, fun i hi => absurd hi (by simp)⟩
  exact ⟨.map (some w.heap.size), _, _, by simp [Instr.makeMap], rfl, new_map, hW', hE⟩

/-- make([]T, n): a row of the call's own (nothing in it: a slice that can be appended to). -/
def makeSliceR (Z : Sys) (ann : Nat) (t : TypeId) (l c : D) (nx : Nat) : Option (D × Eff) :=
  match Z.T t, l, c with
  | some it, .int _ n, .int _ m =>
    (match it.d with
    | .slice e => (match Z.T e with
      | some ie => if ie.zeros.all D.one = true ∧ ie.zeros.length = ie.size ∧ 0 < ie.size ∧ 0 ≤ n ∧ n ≤ m ∧ (ie.bytes : Int) * m ≤ 281474976710656 ∧ m ≤ (big : Int) then
          (if ann = 2 then (if n = 0 then some (.sl (.tip nx ie.size) 0 [], .new (.tip e 0)) else none)
           else some (.row nx 0 n.toNat (some m.toNat) ie.size, .new (.cells e (litZero ie (m.toNat * ie.size)))))
          else none
      | none => none)
    | _ => none)
  | _, _, _ => none

theorem makeSliceR_ok {Z : Sys} {ann : Nat} {t : TypeId} {l c d : D} {s : GH} {f : Eff} {w : World} {u v : Value} (hW : W s w) (hl : V w (Lim s) u l) (hc : V w (Lim s) v c) (h : makeSliceR Z ann t l c s.σ.next = some (d, f)) :
    EOK Z.P (Instr.makeSlice t u v) w s d f := by
  unfold makeSliceR at h
  split at h
  · rename_i it k n k' m hit
    cases hl; cases hc
    split at h
    · rename_i e hd
      split at h
      · rename_i ie hie
        split at h
        · rename_i hc0
          obtain ⟨hz1, hz2, hs, h0, hnm, hby, hbig⟩ := hc0
          obtain ⟨hu, inf, hinf, hsz, hbt, hz⟩ := Z.out hit
          obtain ⟨hu', inf', hinf', hsz', hbt', hz'⟩ := Z.out hie
          have hrun := run_make (P := Z.P) w t e inf' ie.zero (hd ▸ hu) hinf' hz' k k' n m h0 hnm (by rw [hbt']; exact hby) (by unfold big at hbig; exact hbig)
          have hlz := litZero_ok w (Lim s) ie (m.toNat * ie.size) hz1 hz2 hs
          have hmc : madeCells ie.zero.cells (m.toNat * inf'.size) = (Array.range (m.toNat * ie.size)).map (fun j => ie.zero.cells[j % ie.zero.cells.size]!) := by rw [hsz']; rfl
          rw [hmc] at hrun
          have hb : m.toNat ≤ big := by omega
          split at h
          · split at h
            · rename_i hn0
              cases h
              subst hn0
              obtain ⟨hW', hE⟩ := new_obj hW (.cells ((Array.range (m.toNat * ie.size)).map (fun j => ie.zero.cells[j % ie.zero.cells.size]!)) e) (.tip e 0) ⟨w.heap.size, 0, m.toNat * ie.size⟩ rfl
                fun hE => ⟨_, by rw [push_ρ_new]; exact alloc_new w _, Nat.zero_le _, by rw [push_ρ_new]; simp⟩
              refine ⟨_, _, _, hrun, rfl, ?_, hW', hE⟩
              refine V_new (.tip s.σ.next ie.size) _ _ (by simp) hb ⟨?_, ?_, ?_⟩ (alloc_new w _) (by simp) (fun i hi => absurd hi (by simp)) (fun i hi => absurd hi (by simp)) (fun i hi => absurd hi (by simp))
              · rw [Lim_ρ, push_ρ_new]
              · rw [Lim_ρ, push_ρ_new]
              · rw [Lim_N]; simp [GH.push, Heap.new]
            · cases h
          · cases h
            obtain ⟨hW', hE⟩ := new_cells hW e hlz
            refine ⟨_, _, _, hrun, rfl, ?_, hW', hE⟩
            exact new_row (by omega) hb ⟨rfl, by simp⟩ rfl
        · cases h
      · cases h
    · cases h
  · cases h

def extractD (x : D) (i : Nat) : Option D :=
  match x with
  | .tup ds => ds[i]?
  | _ => none

theorem extractD_ok {P : Program} {x d : D} {i : Nat} {L : Lk} {w : World} {u : Value} (hx : V w L u x) (h : extractD x i = some d) : ∃ v, (Instr.extract u i).run P w = .ok v w ∧ V w L v d := by
  unfold extractD at h
  split at h
  · cases hx with
    | tup vs cs hl hv =>
      obtain ⟨hi, rfl⟩ := List.getElem?_eq_some_iff.1 h
      have hi' : i < vs.size := by rw [hl]; exact hi
      refine ⟨vs.getD i undef, ?_, hv i hi⟩
      simp [Instr.extract, hi', Array.getD]
  · cases h

def plainKeyT (d : TypeDesc) : Bool := match d with | .int _ | .string | .bool => true | _ => false

def scalarSame : D → D → Bool
  | .int k a, .int k' b => decide (k = k') && a == b
  | .str a, .str b => a == b
  | .bool a, .bool b => a == b
  | _, _ => false
def cellsSame : List D → List D → Bool
  | [], [] => true
  | x :: xs, y :: ys => scalarSame x y && cellsSame xs ys
  | _, _ => false
/-- Keys: numbers, texts, bools, and structs of these. -/
def keyEq (Z : Sys) (kt : TypeId) (x y : D) : Option Bool :=
  match Z.T kt with
  | none => none
  | some i =>
    match i.d with
    | .struct _ => (match x, y, eqT Z kt x y with
      | .agg xs, .agg ys, some r => if r = true then (if cellsSame xs ys = true then some true else none) else some false
      | _, _, _ => none)
    | d => if plainKeyT d = true then eqS d x y else none
/-- May a value be a key of this type? -/
def keyFits (Z : Sys) (kt : TypeId) (x : D) : Bool :=
  match Z.T kt with
  | none => false
  | some i =>
    match i.d with
    | .struct fs => (match x with
      | .agg xs => fs.toList.all fun f => match Z.T f.type with
        | some fi => plainKeyT fi.d && decide (f.offset < xs.length)
        | none => false
      | _ => false)
    | d => plainKeyT d

theorem keyNow {w : World} {L : Lk} {td : TypeDesc} {a b : Value} {x y : D} {r : Bool} (ha : V w L a x) (hb : V w L b y) (h : eqS td x y = some r) : Instr.sameNow td a b = some r := by
  unfold eqS at h
  split at h
  · split at h
    · rename_i hk; subst hk; cases h; cases ha; cases hb; simp [Instr.sameNow]
    · cases h
  · cases h; cases ha; cases hb; simp [Instr.sameNow]
  · cases h; cases ha; cases hb; simp [Instr.sameNow]
  · cases h

theorem run_checkPlain {P : Program} {w : World} {kt : TypeId} {d : TypeDesc} (hd : P.underlying kt = some d) (hp : plainKeyT d = true) (k : Value) (e : Bool) (n : Nat) : (Instr.checkKey e (n + 1) kt k).run P w = .ok () w := by
  have h1 := run_underlying hd w
  cases d <;> simp [plainKeyT] at hp <;> simp [Instr.checkKey, h1]

theorem V_tup2 {w : World} {L : Lk} {a b : Value} {x y : D} (ha : V w L a x) (hb : V w L b y) : V w L (.tuple #[a, b]) (.tup [x, y]) := by
  refine .tup _ _ rfl fun i hi => ?_
  match i, hi with
  | 0, _ => exact ha
  | 1, _ => exact hb

def lookRes (ok : Bool) (z : Value) (r : Option (Nat × Value)) : Value :=
  match r with
  | some (_, v) => if ok then .tuple #[v, .bool true] else v
  | none => if ok then .tuple #[z, .bool false] else z

theorem run_unit_all {α : Type} {P : Program} {w : World} (body : α → Sem (ForInStep PUnit)) : ∀ l : List α, (∀ a ∈ l, (body a).run P w = .ok (.yield ⟨⟩) w) → (forIn l PUnit.unit fun a _ => body a).run P w = .ok ⟨⟩ w
  | [], _ => by simp
  | a :: l, h => by
    simp only [List.forIn_cons, Sem.run_bind, h a (by simp), Result.andThen_ok]
    exact run_unit_all body l fun b hb => h b (by simp [hb])

theorem keyFits_ok {Z : Sys} {kt : TypeId} {k : D} {L : Lk} {w : World} {kv : Value} (hk : V w L kv k) (h : keyFits Z kt k = true) (em : Bool) : (Instr.checkKey em 10000 kt kv).run Z.P w = .ok () w := by
  unfold keyFits at h
  split at h
  · cases h
  · rename_i i hi
    have hu := (Z.out hi).1
    split at h
    · rename_i fs hd
      split at h
      · rename_i xs
        cases hk with
        | agg vs _ hl h1 hv =>
          have h1' := run_underlying (hd ▸ hu) w
          show (Instr.checkKey em (9999 + 1) kt (.agg vs)).run Z.P w = _
          rw [Instr.checkKey]
          simp only [Sem.run_bind, h1', Result.andThen_ok]
          rw [← Array.forIn_toList]
          rw [run_unit_all (w := w) (fun f : Field => if f.name ≠ "_" then (do let x ← part f.type vs f.offset; Instr.checkKey em 9999 f.type x; pure (ForInStep.yield PUnit.unit)) else pure (ForInStep.yield PUnit.unit)) fs.toList (fun f hf => ?_)]
          · rfl
          · have := List.all_eq_true.1 h f hf
            split at this
            · rename_i fi hfi
              simp only [Bool.and_eq_true, decide_eq_true_eq] at this
              have hag := Z.isAgg hfi w
              have hna : fi.isAgg = false := by
                have hp := this.1
                unfold plainKeyT at hp
                unfold TInfo.isAgg
                split at hp <;> simp_all
              have hlv : f.offset < vs.size := by rw [hl]; exact this.2
              have hpart : (part f.type vs f.offset).run Z.P w = .ok vs[f.offset] w := by simp [part, hag, hna, hlv]
              have hck := run_checkPlain (w := w) (Z.out hfi).1 this.1 vs[f.offset] em 9998
              split
              · simp [hpart, hck]
              · simp
            · cases this
      · cases h
    · exact run_checkPlain hu h kv em 9999

def findD (Z : Sys) (kt : TypeId) (k : D) : List ME → Nat → Option (Option (Nat × D))
  | [], _ => some none
  | e :: es, i =>
    match keyEq Z kt k e.key with
    | some true => some (some (i, e.val))
    | some false => findD Z kt k es (i + 1)
    | none => none

theorem EntsOK.tail {w : World} {L : Lk} {e : MapEntry} {p : ME} {ents : List MapEntry} {es : List ME} (h : EntsOK w L (e :: ents) (p :: es)) : EntsOK w L ents es :=
  ⟨by simpa using h.1, fun j hj => by have := h.2 (j + 1) (by simp; omega); simpa [List.getD] using this⟩
theorem EntsOK.head {w : World} {L : Lk} {e : MapEntry} {p : ME} {ents : List MapEntry} {es : List ME} (h : EntsOK w L (e :: ents) (p :: es)) : e.born = p.born ∧ V w L e.key p.key ∧ V w L e.val p.val := by
  have := h.2 0 (by simp); simpa [List.getD] using this

def FoundR (w : World) (L : Lk) (n i : Nat) : Option (Nat × D) → Option (Nat × Value) → Prop
  | none, none => True
  | some (a, d), some (b, v) => a = b ∧ i ≤ a ∧ a - i < n ∧ V w L v d
  | _, _ => False
theorem FoundR.succ {w : World} {L : Lk} {n i : Nat} {q : Option (Nat × D)} {q' : Option (Nat × Value)} (h : FoundR w L n (i + 1) q q') : FoundR w L (n + 1) i q q' := by
  cases q with
  | none => cases q' with
    | none => trivial
    | some _ => exact h.elim
  | some p => cases q' with
    | none => exact h.elim
    | some p' => obtain ⟨h1, h2, h3, h4⟩ := h; exact ⟨h1, by omega, by omega, h4⟩

theorem keyEq_scalar {Z : Sys} {kt : TypeId} {i : TInfo} (hi : Z.T kt = some i) (hns : ∀ fs, i.d ≠ .struct fs) (x y : D) : keyEq Z kt x y = if plainKeyT i.d = true then eqS i.d x y else none := by
  unfold keyEq
  rw [hi]
  cases hd : i.d <;> first | exact absurd hd (hns _) | simp only [hd]
theorem keyEq_eqT {Z : Sys} {kt : TypeId} {i : TInfo} (hi : Z.T kt = some i) {fs : Array Field} (hd : i.d = .struct fs) {x y : D} {r : Bool} (h : keyEq Z kt x y = some r) : eqT Z kt x y = some r := by
  unfold keyEq at h
  rw [hi] at h
  simp only [hd] at h
  cases hq : eqT Z kt x y with
  | none => rw [hq] at h; cases x <;> cases y <;> simp at h
  | some q =>
    rw [hq] at h
    cases x <;> try (simp at h; done)
    cases y <;> try (simp at h; done)
    simp only at h
    split at h
    · rename_i hq'
      subst hq'
      split at h
      · cases h; rfl
      · cases h
    · rename_i hq'
      cases h
      rw [Bool.not_eq_true] at hq'
      rw [hq']

theorem findNow_ok {Z : Sys} {w : World} {L : Lk} {kt : TypeId} {i : TInfo} (hi : Z.T kt = some i) (hns : ∀ fs, i.d ≠ .struct fs) {k : D} {kv : Value} (hk : V w L kv k) : ∀ (ents : List MapEntry) (es : List ME) (j : Nat) (q : Option (Nat × D)), EntsOK w L ents es → findD Z kt k es j = some q →
    ∃ q', Instr.findNow i.d kv ents j = some q' ∧ FoundR w L es.length j q q'
  | [], [], j, q, _, h => by simp [findD] at h; subst h; exact ⟨none, rfl, trivial⟩
  | [], _ :: _, _, _, hE, _ => by simp [EntsOK] at hE
  | _ :: _, [], _, _, hE, _ => by simp [EntsOK] at hE
  | e :: ents, p :: es, j, q, hE, h => by
    obtain ⟨_, hk1, hv1⟩ := hE.head
    have hkey : ∀ r, keyEq Z kt k p.key = some r → Instr.sameNow i.d kv e.key = some r := fun r hr => by
      rw [keyEq_scalar hi hns] at hr
      split at hr
      · exact keyNow hk hk1 hr
      · cases hr
    simp only [findD] at h
    split at h
    · rename_i hq
      cases h
      refine ⟨some (j, e.val), ?_, rfl, Nat.le_refl _, by simp, hv1⟩
      simp only [Instr.findNow]; rw [hkey _ hq]
    · rename_i hq
      obtain ⟨q', h1, h2⟩ := findNow_ok hi hns hk ents es (j + 1) q hE.tail h
      refine ⟨q', ?_, h2.succ⟩
      simp only [Instr.findNow]; rw [hkey _ hq]; exact h1
    · cases h

theorem findAsk_ok {Z : Sys} {w : World} {L : Lk} {kt : TypeId} {i : TInfo} (hi : Z.T kt = some i) {fs : Array Field} (hd : i.d = .struct fs) {k : D} {kv : Value} (hk : V w L kv k) : ∀ (ents : List MapEntry) (es : List ME) (j : Nat) (q : Option (Nat × D)), EntsOK w L ents es → findD Z kt k es j = some q →
    ∃ q', (Instr.findAsking kt kv ents j).run Z.P w = .ok q' w ∧ FoundR w L es.length j q q'
  | [], [], j, q, _, h => by simp [findD] at h; subst h; exact ⟨none, by simp [Instr.findAsking], trivial⟩
  | [], _ :: _, _, _, hE, _ => by simp [EntsOK] at hE
  | _ :: _, [], _, _, hE, _ => by simp [EntsOK] at hE
  | e :: ents, p :: es, j, q, hE, h => by
    obtain ⟨_, hk1, hv1⟩ := hE.head
    have hkey : ∀ r, keyEq Z kt k p.key = some r → (Op.equal kt kv e.key).run Z.P w = .ok r w := fun r hr => eqT_ok hk hk1 (keyEq_eqT hi hd hr)
    simp only [findD] at h
    split at h
    · rename_i hq
      cases h
      refine ⟨some (j, e.val), ?_, rfl, Nat.le_refl _, by simp, hv1⟩
      simp [Instr.findAsking, hkey _ hq]
    · rename_i hq
      obtain ⟨q', h1, h2⟩ := findAsk_ok hi hd hk ents es (j + 1) q hE.tail h
      exact ⟨q', by simp [Instr.findAsking, hkey _ hq, h1], h2.succ⟩
    · cases h

theorem findKey_ok {Z : Sys} {w : World} {L : Lk} {kt : TypeId} {k : D} {kv : Value} (hk : V w L kv k) {ents : List MapEntry} {es : List ME} {q : Option (Nat × D)} (hE : EntsOK w L ents es) (hf : keyFits Z kt k = true) (h : findD Z kt k es 0 = some q) :
    ∃ q', (Instr.findKey kt kv ents).run Z.P w = .ok q' w ∧ FoundR w L es.length 0 q q' := by
  have hT : ∃ i, Z.T kt = some i := by
    unfold keyFits at hf
    split at hf
    · cases hf
    · rename_i i hi; exact ⟨i, hi⟩
  obtain ⟨i, hi⟩ := hT
  have hu := (Z.out hi).1
  by_cases hs : ∃ fs, i.d = .struct fs
  · obtain ⟨fs, hd⟩ := hs
    rw [run_findKey_eq w (by rw [hu, hd]) kv ents]
    exact findAsk_ok hi hd hk ents es 0 q hE h
  · obtain ⟨q', h1, h2⟩ := findNow_ok hi (fun fs hd => hs ⟨fs, hd⟩) hk ents es 0 q hE h
    exact ⟨q', by simp [Instr.findKey, run_underlying hu, h1], h2⟩

def mapEnts (g : Nat → Option AO) (m : D) : Option (List ME) :=
  match m with
  | .nilmap => some []
  | .map r => (match g r with | some (.map es _) => some es | _ => none)
  | _ => none

def zeroD (i : TInfo) : Option D := match i.zero with
  | .agg cs => if (cs.toList.map ofV).all D.one = true then some (.agg (cs.toList.map ofV)) else none
  | v => some (ofV v)
theorem zeroD_ok {i : TInfo} {d : D} (h : zeroD i = some d) (w : World) (L : Lk) : V w L i.zero d := by
  unfold zeroD at h
  split at h
  · rename_i cs hz
    split at h
    · rename_i h1
      cases h
      have := Vs_ofV w L cs h1
      rw [hz]
      exact .agg _ _ this.1 this.2.1 this.2.2
    · cases h
  · rename_i v hz
    cases h
    exact V_ofV w L _

/-- x.(T), T no interface. -/
def assertD (Z : Sys) (t : TypeId) (x : D) (ok : Bool) : Option D :=
  match Z.T t with
  | some i => (match i.d with
    | .interface _ => none
    | _ => (match x with
      | .iface u d => if u = t then some (if ok then .tup [d, .bool true] else d) else if ok then (zeroD i).map fun z => .tup [z, .bool false] else none
      | .nilif => if ok then (zeroD i).map fun z => .tup [z, .bool false] else none
      | _ => none))
  | none => none

theorem V_tupB {w : World} {L : Lk} {v : Value} {d : D} (h : V w L v d) (b : Bool) : V w L (.tuple #[v, .bool b]) (.tup [d, .bool b]) := V_tup2 h (.bool b)

theorem assertD_ok {Z : Sys} {t xt : TypeId} {ok : Bool} {x d : D} {L : Lk} {w : World} {u : Value} (hx : V w L u x) (h : assertD Z t x ok = some d) : ∃ v, (Instr.typeAssert u xt t ok).run Z.P w = .ok v w ∧ V w L v d := by
  unfold assertD at h
  split at h
  · rename_i i hi
    have h1 := run_underlying (Z.out hi).1 w
    obtain ⟨_, inf, hinf, _, _, hz⟩ := Z.out hi
    have hzv : (zeroValue t).run Z.P w = .ok i.zero w := by simp [zeroValue, typeInfo, hinf, hz]
    split at h
    · cases h
    · rename_i hn
      split at h
      · rename_i u' d'
        cases hx with
        | iface _ v' _ hv =>
        split at h
        · rename_i e
          cases h
          cases ok
          · refine ⟨v', ?_, hv⟩
            cases hd : i.d <;> first
              | exact absurd hd (hn _)
              | simp [Instr.typeAssert, h1, hd, e]
          · refine ⟨.tuple #[v', .bool true], ?_, V_tupB hv true⟩
            cases hd : i.d <;> first
              | exact absurd hd (hn _)
              | simp [Instr.typeAssert, h1, hd, e]
        · rename_i e
          split at h
          · rename_i hok
            cases hzd : zeroD i with
            | none => rw [hzd] at h; cases h
            | some z =>
              rw [hzd] at h
              cases h
              refine ⟨.tuple #[i.zero, .bool false], ?_, V_tupB (zeroD_ok hzd w L) false⟩
              cases hd : i.d <;> first
                | exact absurd hd (hn _)
                | simp [Instr.typeAssert, h1, hd, e, hok, hzv]
          · cases h
      · cases hx
        split at h
        · rename_i hok
          cases hzd : zeroD i with
          | none => rw [hzd] at h; cases h
          | some z =>
            rw [hzd] at h
            cases h
            refine ⟨.tuple #[i.zero, .bool false], ?_, V_tupB (zeroD_ok hzd w L) false⟩
            cases hd : i.d <;> first
              | exact absurd hd (hn _)
              | simp [Instr.typeAssert, h1, hd, hok, hzv]
        · cases h
      · cases h
  · cases h

def lookupD (Z : Sys) (g : Nat → Option AO) (t : TypeId) (m k : D) (ok : Bool) : Option D :=
  match Z.T t with
  | none => none
  | some it =>
    match it.d with
    | .map kt et =>
      (match Z.T et, mapEnts g m with
      | some ie, some es => if keyFits Z kt k = true then
          (match findD Z kt k es 0 with
          | some (some (_, v)) => some (if ok then .tup [v, .bool true] else v)
          | some none => (zeroD ie).map fun z => if ok then .tup [z, .bool false] else z
          | none => none)
          else none
      | _, _ => none)
    | _ => none

theorem mapEnts_ok {w : World} {s : GH} (hW : W s w) {u : Value} {m : D} (hm : V w (Lim s) u m) {es : List ME} (h : mapEnts s.σ.get m = some es) :
    ∃ (r : Option Nat) (ents : Array MapEntry), u = .map r ∧ ((r = none ∧ ents = #[]) ∨ ∃ b clk, r = some b ∧ w.heap[b]? = some (.map ents clk)) ∧ EntsOK w (Lim s) ents.toList es := by
  unfold mapEnts at h
  split at h
  · cases h
    cases hm
    exact ⟨none, #[], rfl, .inl ⟨rfl, rfl⟩, rfl, fun i hi => absurd hi (by simp)⟩
  · rename_i r
    split at h
    · rename_i es' clk hr
      cases h
      cases hm with
      | map _ hlt =>
      obtain ⟨en, h1, h2⟩ := hW.obj r _ hr
      exact ⟨some _, en, rfl, .inr ⟨_, clk, rfl, h1⟩, h2⟩
    · cases h
  · cases h

theorem lookupD_ok {Z : Sys} {t : TypeId} {m k d : D} {ok : Bool} {s : GH} {w : World} {u v : Value} (hW : W s w) (hm : V w (Lim s) u m) (hk : V w (Lim s) v k) (h : lookupD Z s.σ.get t m k ok = some d) :
    ∃ y, (Instr.lookup t u v ok).run Z.P w = .ok y w ∧ V w (Lim s) y d := by
  unfold lookupD at h
  split at h
  · cases h
  · rename_i it hit
    split at h
    · rename_i kt et hd
      split at h
      · rename_i ie es hie hes
        split at h
        · rename_i hfit
          obtain ⟨hu, inf, hinf, hsz, hbt, hz⟩ := Z.out hit
          obtain ⟨hu2, inf2, hinf2, hsz2, hbt2, hz2⟩ := Z.out hie
          rw [hd] at hu
          obtain ⟨r, ents, rfl, hr, hEO⟩ := mapEnts_ok hW hm hes
          have hck := keyFits_ok hk hfit
          have hrun : ∀ q', (Instr.findKey kt v ents.toList).run Z.P w = .ok q' w → (Instr.lookup t (.map r) v ok).run Z.P w = .ok (lookRes ok ie.zero q') w := fun q' hq' => by
            rcases hr with ⟨rfl, rfl⟩ | ⟨b, clk, rfl, hb⟩
            · cases q' with
              | none => cases ok <;> simp [Instr.lookup, run_underlying hu, hck, hq', zeroValue, typeInfo, hinf2, hz2, lookRes]
              | some q => cases ok <;> simp [Instr.lookup, run_underlying hu, hck, hq', lookRes]
            · cases q' with
              | none => cases ok <;> simp [Instr.lookup, run_underlying hu, getObj, Sem.run, hb, hck, hq', zeroValue, typeInfo, hinf2, hz2, lookRes]
              | some q => cases ok <;> simp [Instr.lookup, run_underlying hu, getObj, Sem.run, hb, hck, hq', lookRes]
          split at h
          · rename_i i d0 hf
            cases h
            obtain ⟨q', h1, h2⟩ := findKey_ok hk hEO hfit hf
            cases q' with
            | none => exact h2.elim
            | some p =>
              obtain ⟨b, v'⟩ := p
              obtain ⟨_, _, _, hV⟩ := h2
              refine ⟨_, hrun _ h1, ?_⟩
              cases ok
              · exact hV
              · exact V_tup2 hV (.bool _)
          · rename_i hf
            obtain ⟨q', h1, h2⟩ := findKey_ok hk hEO hfit hf
            cases q' with
            | some p => exact h2.elim
            | none =>
              cases hzd : zeroD ie with
              | none => rw [hzd] at h; cases h
              | some z =>
                rw [hzd] at h
                cases h
                have hV := zeroD_ok hzd w (Lim s)
                refine ⟨_, hrun _ h1, ?_⟩
                cases ok
                · exact hV
                · exact V_tup2 hV (.bool _)
          · cases h
        · cases h
      · cases h
    · cases h

theorem setObj_ok {w : World} {s : GH} {r : Nat} {es es' : List ME} {clk clk' : Nat} {en : Array MapEntry} (hW : W s w) (hr : s.σ.get r = some (.map es clk)) (hm : EntsOK w (Lim s) en.toList es') :
    Ext w s { w with heap := w.heap.setIfInBounds (s.ρ r).blk (.map en clk') } (s.put r (.map es' clk')) ∧ W (s.put r (.map es' clk')) { w with heap := w.heap.setIfInBounds (s.ρ r).blk (.map en clk') } := by
  have hlt := hW.blk hr
  have hoth : ∀ b, b ≠ (s.ρ r).blk → (w.heap.setIfInBounds (s.ρ r).blk (.map en clk'))[b]? = w.heap[b]? := fun b hb => by rw [Array.getElem?_setIfInBounds_ne (Ne.symm hb)]
  have hsame : (w.heap.setIfInBounds (s.ρ r).blk (.map en clk'))[(s.ρ r).blk]? = some (.map en clk') := by simp [hlt]
  have hE : Ext w s { w with heap := w.heap.setIfInBounds (s.ρ r).blk (.map en clk') } (s.put r (.map es' clk')) := put_heap hW hr (by simp) rfl rfl rfl hoth (fun _ _ h => by cases h)
  exact ⟨hE, put_W hW hr hE hoth ⟨en, hsame, hm.ext hE⟩⟩

def setD (es : List ME) (r : Option (Nat × D)) (k v : D) (clk : Nat) : List ME × Nat :=
  match r with
  | some (i, _) => (es.modify i fun e => { e with key := k, val := v }, clk)
  | none => (es ++ [⟨clk, k, v⟩], clk + 1)

theorem scalarSame_bits {w : World} {L : Lk} {a b : Value} {x y : D} (ha : V w L a x) (hb : V w L b y) (h : scalarSame x y = true) (n : Nat) : Instr.sameBits n b a = true := by
  unfold scalarSame at h
  split at h
  · cases ha; cases hb; simp at h; obtain ⟨rfl, rfl⟩ := h; simp [Instr.sameBits]
  · cases ha; cases hb; simp only [Instr.sameBits]; rw [beq_toListBytes] at h ⊢; simp at h ⊢; exact h.symm
  · cases ha; cases hb; simp at h; subst h; simp [Instr.sameBits]
  · cases h
theorem cellsSame_bits {w : World} {L : Lk} (n : Nat) : ∀ {xs ys : List D} {va vb : List Value}, cellsSame xs ys = true → va.length = xs.length → vb.length = ys.length → (∀ i (h : i < xs.length), V w L (va.getD i undef) xs[i]) → (∀ i (h : i < ys.length), V w L (vb.getD i undef) ys[i]) →
    (vb.zip va).all (fun (x, y) => Instr.sameBits n x y) = true ∧ va.length = vb.length
  | [], [], [], [], _, _, _, _, _ => by simp
  | [], [], _ :: _, _, _, h, _, _, _ => by simp at h
  | [], [], _, _ :: _, _, _, h, _, _ => by simp at h
  | [], _ :: _, _, _, h, _, _, _, _ => by simp [cellsSame] at h
  | _ :: _, [], _, _, h, _, _, _, _ => by simp [cellsSame] at h
  | _ :: _, _ :: _, [], _, _, h, _, _, _ => by simp at h
  | _ :: _, _ :: _, _ :: _, [], _, _, h, _, _ => by simp at h
  | x :: xs, y :: ys, a :: va, b :: vb, h, h1, h2, h3, h4 => by
    simp only [cellsSame, Bool.and_eq_true] at h
    have a0 := h3 0 (by simp)
    have b0 := h4 0 (by simp)
    simp [List.getD] at a0 b0
    obtain ⟨i1, i2⟩ := cellsSame_bits n (va := va) (vb := vb) h.2 (by simpa using h1) (by simpa using h2) (fun i hi => by have := h3 (i + 1) (by simp; omega); simpa [List.getD] using this) (fun i hi => by have := h4 (i + 1) (by simp; omega); simpa [List.getD] using this)
    simp only [List.zip_cons_cons, List.all_cons, Bool.and_eq_true, List.length_cons]
    exact ⟨⟨scalarSame_bits a0 b0 h.1 n, i1⟩, by omega⟩

theorem eqS_scalar {td : TypeDesc} {x y : D} (h : eqS td x y = some true) : scalarSame x y = true := by
  unfold eqS at h
  split at h
  · split at h
    · rename_i hk; subst hk; simp at h; simp [scalarSame, h]
    · cases h
  · simpa [scalarSame] using h
  · simp at h; simp [scalarSame, h]
  · cases h

theorem keyEq_bits {Z : Sys} {w : World} {L : Lk} {kt : TypeId} {a b : Value} {x y : D} (ha : V w L a x) (hb : V w L b y) (h : keyEq Z kt x y = some true) : Instr.sameBits 10000 b a = true := by
  unfold keyEq at h
  split at h
  · cases h
  · split at h
    · split at h
      · rename_i xs ys r he
        split at h
        · split at h
          · rename_i hcs
            cases ha with
            | agg va _ hl1 h11 hv1 =>
              cases hb with
              | agg vb _ hl2 h12 hv2 =>
                obtain ⟨q1, q2⟩ := cellsSame_bits (w := w) (L := L) 9999 (va := va.toList) (vb := vb.toList) hcs (by simpa using hl1) (by simpa using hl2) (fun i hi => by simpa [List.getD, Array.getD_eq_getD_getElem?] using hv1 i hi) (fun i hi => by simpa [List.getD, Array.getD_eq_getD_getElem?] using hv2 i hi)
                show Instr.sameBits (9999 + 1) (.agg vb) (.agg va) = true
                simp only [Instr.sameBits, Bool.and_eq_true, beq_iff_eq]
                exact ⟨by simpa using q2.symm, q1⟩
          · cases h
        · cases h
      · cases h
    · split at h
      · exact scalarSame_bits ha hb (eqS_scalar h) 10000
      · cases h

theorem findD_eq {Z : Sys} {kt : TypeId} {k : D} : ∀ (es : List ME) (i j : Nat) (d : D), findD Z kt k es i = some (some (j, d)) → i ≤ j ∧ ∃ h : j - i < es.length, keyEq Z kt k es[j - i].key = some true
  | [], i, j, d, h => by simp [findD] at h
  | e :: es, i, j, d, h => by
    simp only [findD] at h
    split at h
    · rename_i hq
      simp at h
      obtain ⟨rfl, rfl⟩ := h
      exact ⟨Nat.le_refl _, by simp, by simpa using hq⟩
    · obtain ⟨h1, h2, h3⟩ := findD_eq es (i + 1) j d h
      refine ⟨by omega, by simp; omega, ?_⟩
      have : j - i = (j - (i + 1)) + 1 := by omega
      simp only [this, List.getElem_cons_succ]
      exact h3
    · cases h

/-- What is found, and that the key that stays is the new one. -/
theorem found_some {Z : Sys} {w : World} {s : GH} {kt : TypeId} {k : D} {v : Value} (hk : V w (Lim s) v k) {en : Array MapEntry} {es : List ME} (hEO : EntsOK w (Lim s) en.toList es) (hfit : keyFits Z kt k = true) {a : Nat} {d : D} (hf : findD Z kt k es 0 = some (some (a, d))) :
    ∃ (ha : a < en.size) (hs : a < es.length), (Instr.findKey kt v en.toList).run Z.P w = .ok (some (a, (en[a]).val)) w ∧ Instr.sameBits 10000 (en[a]).key v = true ∧ V w (Lim s) (en[a]).val d ∧ (en[a]).born = es[a].born ∧ d = es[a].val := by
  obtain ⟨q', h1, h2⟩ := findKey_ok hk hEO hfit hf
  cases q' with
  | none => exact h2.elim
  | some p' =>
    obtain ⟨b, v'⟩ := p'
    obtain ⟨hab, _, hlt, hV⟩ := h2
    subst hab
    obtain ⟨_, hlt', heq⟩ := findD_eq es 0 a d hf
    simp only [Nat.sub_zero] at hlt hlt' heq
    have hen : a < en.size := by have := hEO.1; simp at this; omega
    have hE := hEO.2 a hlt
    have hgd : en.toList.getD a default = en[a] := by simp [List.getD, hen]
    rw [hgd] at hE
    have hval : ∀ (l : List MapEntry) (es : List ME) (j : Nat) (x : Nat) (u : Value), (Instr.findKey kt v l).run Z.P w = .ok (some (x, u)) w → True := fun _ _ _ _ _ _ => trivial
    have hd : d = es[a].val := by
      have : ∀ (es : List ME) (i : Nat), findD Z kt k es i = some (some (a, d)) → ∃ h : a - i < es.length, i ≤ a ∧ d = es[a - i].val := by
        intro es
        induction es with
        | nil => intro i h; simp [findD] at h
        | cons e es ih =>
          intro i h
          simp only [findD] at h
          split at h
          · simp at h; obtain ⟨rfl, rfl⟩ := h; exact ⟨by simp, Nat.le_refl _, by simp⟩
          · obtain ⟨q1, q2, q3⟩ := ih (i + 1) h
            refine ⟨by simp; omega, by omega, ?_⟩
            have : a - i = (a - (i + 1)) + 1 := by omega
            simp only [this, List.getElem_cons_succ]
            exact q3
          · cases h
      obtain ⟨_, _, h⟩ := this es 0 hf
      simpa using h
    have hv' : v' = (en[a]).val := by
      have hu : ∃ i, Z.T kt = some i := by
        unfold keyFits at hfit
        split at hfit
        · cases hfit
        · rename_i i hi; exact ⟨i, hi⟩
      have hval : ∀ (l : List MapEntry) (j : Nat) (x : Nat) (u : Value) (td : TypeDesc), Instr.findNow td v l j = some (some (x, u)) → ∃ h : x - j < l.length, j ≤ x ∧ u = l[x - j].val := by
        intro l
        induction l with
        | nil => intro j x u td h; simp [Instr.findNow] at h
        | cons e l ih =>
          intro j x u td h
          simp only [Instr.findNow] at h
          split at h
          · simp at h; obtain ⟨rfl, rfl⟩ := h; exact ⟨by simp, Nat.le_refl _, by simp⟩
          · obtain ⟨q1, q2, q3⟩ := ih (j + 1) x u td h
            refine ⟨by simp; omega, by omega, ?_⟩
            have : x - j = (x - (j + 1)) + 1 := by omega
            simp only [this, List.getElem_cons_succ]
            exact q3
          · cases h
      obtain ⟨i, hi⟩ := hu
      by_cases hst : ∃ fs, i.d = .struct fs
      · obtain ⟨fs, hd'⟩ := hst
        rw [run_findKey_eq w (by rw [(Z.out hi).1, hd']) v en.toList] at h1
        have hask : ∀ (l : List MapEntry) (es : List ME) (j : Nat), EntsOK w (Lim s) l es → (∃ q, findD Z kt k es j = some q) → ∀ x u, (Instr.findAsking kt v l j).run Z.P w = .ok (some (x, u)) w → ∃ h : x - j < l.length, j ≤ x ∧ u = l[x - j].val := by
          intro l
          induction l with
          | nil => intro es j _ _ x u h; simp [Instr.findAsking] at h
          | cons e l ih =>
            intro es j hE hq x u h
            cases es with
            | nil => simp [EntsOK] at hE
            | cons p es =>
              obtain ⟨q, hq⟩ := hq
              obtain ⟨_, hk1, hv1⟩ := hE.head
              simp only [findD] at hq
              have hkey : ∀ r, keyEq Z kt k p.key = some r → (Op.equal kt v e.key).run Z.P w = .ok r w := fun r hr => eqT_ok hk hk1 (keyEq_eqT hi hd' hr)
              split at hq
              · rename_i hqq
                simp [Instr.findAsking, hkey _ hqq] at h
                obtain ⟨rfl, rfl⟩ := h
                exact ⟨by simp, Nat.le_refl _, by simp⟩
              · rename_i hqq
                simp [Instr.findAsking, hkey _ hqq] at h
                obtain ⟨q1, q2, q3⟩ := ih es (j + 1) hE.tail ⟨q, hq⟩ x u h
                refine ⟨by simp; omega, by omega, ?_⟩
                have : x - j = (x - (j + 1)) + 1 := by omega
                simp only [this, List.getElem_cons_succ]
                exact q3
              · cases hq
        obtain ⟨_, _, h⟩ := hask en.toList es 0 hEO ⟨_, hf⟩ a v' h1
        simpa using h
      · obtain ⟨q2, g1, g2⟩ := findNow_ok hi (fun fs hd => hst ⟨fs, hd⟩) hk en.toList es 0 _ hEO hf
        have : (Instr.findKey kt v en.toList).run Z.P w = .ok q2 w := by simp [Instr.findKey, run_underlying (Z.out hi).1, g1]
        rw [h1] at this
        cases this
        obtain ⟨_, _, h⟩ := hval en.toList 0 a v' i.d g1
        simpa using h
    subst hv'
    exact ⟨hen, hlt', h1, keyEq_bits hk hE.2.1 heq, hV, hE.1, hd⟩

theorem EntsOK.modify {w : World} {L : Lk} {en : Array MapEntry} {es : List ME} (h : EntsOK w L en.toList es) {a : Nat} {F : MapEntry → MapEntry} {G : ME → ME} (hFG : ∀ e p, e.born = p.born → V w L e.key p.key → V w L e.val p.val → (F e).born = (G p).born ∧ V w L (F e).key (G p).key ∧ V w L (F e).val (G p).val) :
    EntsOK w L (en.modify a F).toList (es.modify a G) := by
  refine ⟨by simpa using h.1, fun i hi => ?_⟩
  have hil : i < es.length := by simpa using hi
  have hie : i < en.size := by have := h.1; simp at this; omega
  have := h.2 i hil
  simp only [List.getD, Array.getElem?_toList, Array.getElem?_eq_getElem hie, Option.getD_some] at this
  simp only [List.getD, Array.getElem?_toList, Array.getElem?_modify, Array.getElem?_eq_getElem hie, List.getElem_modify]
  by_cases hai : a = i
  · subst hai
    simpa using hFG _ _ this.1 this.2.1 this.2.2
  · simpa [hai] using this
theorem EntsOK.push {w : World} {L : Lk} {en : Array MapEntry} {es : List ME} (h : EntsOK w L en.toList es) {e : MapEntry} {p : ME} (he : e.born = p.born ∧ V w L e.key p.key ∧ V w L e.val p.val) : EntsOK w L (en.push e).toList (es ++ [p]) := by
  refine ⟨by have := h.1; simp at this ⊢; omega, fun i hi => ?_⟩
  simp only [Array.toList_push] at hi ⊢
  by_cases hlt : i < es.length
  · have := h.2 i hlt
    rw [List.getElem_append_left hlt, List.getD, List.getElem?_append_left (by rw [h.1]; exact hlt)]
    exact this
  · have hi' : i = es.length := by simp at hi; omega
    subst hi'
    rw [List.getElem_append_right (Nat.le_refl _), List.getD, List.getElem?_append_right (by rw [h.1]; exact Nat.le_refl _), h.1]
    simpa using he

def mapUpdateE (Z : Sys) (g : Nat → Option AO) (t : TypeId) (m k v : D) : Option Eff :=
  match (Z.T t).map TInfo.d, m with
  | some (.map kt et), .map r => (match g r with
    | some (.map es clk) => if keyFits Z kt k = true then (findD Z kt k es 0).map fun q => .put r (.map (setD es q k v clk).1 (setD es q k v clk).2) else none
    | _ => none)
  | _, _ => none

theorem mapUpdateE_ok {Z : Sys} {t : TypeId} {m k x : D} {s : GH} {f : Eff} {w : World} {u v y : Value} (hW : W s w) (hm : V w (Lim s) u m) (hk : V w (Lim s) v k) (hx : V w (Lim s) y x) (h : mapUpdateE Z s.σ.get t m k x = some f) :
    UOK Z.P (Instr.mapUpdate t u v y) w s f := by
  unfold mapUpdateE at h
  split at h
  · rename_i kt et r hT
    split at h
    · rename_i es clk hr
      split at h
      · rename_i hfit
        obtain ⟨it, hit, hd⟩ : ∃ it, Z.T t = some it ∧ it.d = .map kt et := by
          cases hq : Z.T t with
          | none => rw [hq] at hT; cases hT
          | some it => rw [hq] at hT; exact ⟨it, rfl, by simpa using hT⟩
        have hu := (Z.out hit).1
        rw [hd] at hu
        cases hm with
        | map _ hlt =>
        obtain ⟨en, h1, hEO⟩ := hW.obj r _ hr
        have hck := keyFits_ok hk hfit false
        cases hf : findD Z kt k es 0 with
        | none => rw [hf] at h; cases h
        | some q =>
          rw [hf] at h
          cases h
          cases q with
          | none =>
            obtain ⟨q', g1, g2⟩ := findKey_ok hk hEO hfit hf
            cases q' with
            | some p => exact g2.elim
            | none =>
              have hrun : (Instr.mapUpdate t (.map (some (s.ρ r).blk)) v y).run Z.P w = .ok () { w with heap := w.heap.setIfInBounds (s.ρ r).blk (.map (en.push { key := v, val := y, born := clk }) (clk + 1)) } := by
                simp [Instr.mapUpdate, run_underlying hu, getObj, setObj, Sem.run, h1, hck, g1]
              obtain ⟨hE, hW'⟩ := setObj_ok (clk' := clk + 1) hW hr (hEO.push (e := { key := v, val := y, born := clk }) (p := ⟨clk, k, x⟩) ⟨rfl, hk, hx⟩)
              exact ⟨_, _, by rw [Lim_ρ]; exact hrun, rfl, hW', hE⟩
          | some p =>
            obtain ⟨a, d⟩ := p
            obtain ⟨hen, hes, g1, hsb, _⟩ := found_some hk hEO hfit hf
            have hrun : (Instr.mapUpdate t (.map (some (s.ρ r).blk)) v y).run Z.P w = .ok () { w with heap := w.heap.setIfInBounds (s.ρ r).blk (.map (en.modify a fun e => { e with key := v, val := y }) clk) } := by
              simp [Instr.mapUpdate, run_underlying hu, getObj, setObj, Sem.run, h1, hck, g1, Instr.keyThatStays, hen, hsb]
            obtain ⟨hE, hW'⟩ := setObj_ok (clk' := clk) hW hr (hEO.modify (a := a) (F := fun e => { e with key := v, val := y }) (G := fun e => { e with key := k, val := x }) (fun e p h1 _ _ => ⟨h1, hk, hx⟩))
            exact ⟨_, _, by rw [Lim_ρ]; exact hrun, rfl, hW', hE⟩
      · cases h
    · cases h
  · cases h

/-- m[k] op= v: the entry, made if it is not there. -/
def mapEntryR (Z : Sys) (g : Nat → Option AO) (t : TypeId) (m k : D) : Option (D × Eff) :=
  match (Z.T t).map TInfo.d, m with
  | some (.map kt et), .map r => (match g r, Z.T et with
    | some (.map es clk), some ie => if keyFits Z kt k = true then
        (match findD Z kt k es 0 with
        | some (some (i, v)) => some (.tup [v, .int .i64 ((es[i]?).map (·.born) |>.getD 0 : Nat)], .put r (.map (es.modify i fun e => { e with key := k }) clk))
        | some none => (zeroD ie).map fun z => (.tup [z, .int .i64 clk], .put r (.map (es ++ [⟨clk, k, z⟩]) (clk + 1)))
        | none => none)
        else none
    | _, _ => none)
  | _, _ => none

theorem mapEntryR_ok {Z : Sys} {t : TypeId} {m k d : D} {s : GH} {f : Eff} {w : World} {u v : Value} (hW : W s w) (hm : V w (Lim s) u m) (hk : V w (Lim s) v k) (h : mapEntryR Z s.σ.get t m k = some (d, f)) :
    EOK Z.P (Instr.mapEntry t u v) w s d f := by
  unfold mapEntryR at h
  split at h
  · rename_i kt et r hT
    split at h
    · rename_i es clk ie hr hie
      split at h
      · rename_i hfit
        obtain ⟨it, hit, hd⟩ : ∃ it, Z.T t = some it ∧ it.d = .map kt et := by
          cases hq : Z.T t with
          | none => rw [hq] at hT; cases hT
          | some it => rw [hq] at hT; exact ⟨it, rfl, by simpa using hT⟩
        have hu := (Z.out hit).1
        rw [hd] at hu
        obtain ⟨hu2, inf2, hinf2, hsz2, hbt2, hz2⟩ := Z.out hie
        cases hm with
        | map _ hlt =>
        obtain ⟨en, h1, hEO⟩ := hW.obj r _ hr
        have hck := keyFits_ok hk hfit false
        split at h
        · rename_i a d0 hf
          cases h
          obtain ⟨hen, hes, g1, hsb, hV, hborn, _⟩ := found_some hk hEO hfit hf
          have hrun : (Instr.mapEntry t (.map (some (s.ρ r).blk)) v).run Z.P w = .ok (.tuple #[(en[a]).val, .int .i64 (en[a]).born]) { w with heap := w.heap.setIfInBounds (s.ρ r).blk (.map (en.modify a fun e => { e with key := v }) clk) } := by
            simp [Instr.mapEntry, run_underlying hu, getObj, setObj, Sem.run, h1, hck, g1, Instr.keyThatStays, hen, hsb, goInt]
          obtain ⟨hE, hW'⟩ := setObj_ok (clk' := clk) hW hr (hEO.modify (a := a) (F := fun e => { e with key := v }) (G := fun e => { e with key := k }) (fun e p h1 _ h3 => ⟨h1, hk, h3⟩))
          refine ⟨_, _, _, by rw [Lim_ρ]; exact hrun, rfl, V_tup2 (hV.ext hE) ?_, hW', hE⟩
          rw [hborn]
          simp only [List.getElem?_eq_getElem hes, Option.map_some, Option.getD_some]
          exact .int _ _
        · rename_i hf
          cases hzd : zeroD ie with
          | none => rw [hzd] at h; cases h
          | some z =>
            rw [hzd] at h
            cases h
            obtain ⟨q', g1, g2⟩ := findKey_ok hk hEO hfit hf
            cases q' with
            | some p => exact g2.elim
            | none =>
              have hrun : (Instr.mapEntry t (.map (some (s.ρ r).blk)) v).run Z.P w = .ok (.tuple #[ie.zero, .int .i64 clk]) { w with heap := w.heap.setIfInBounds (s.ρ r).blk (.map (en.push { key := v, val := ie.zero, born := clk }) (clk + 1)) } := by
                simp [Instr.mapEntry, run_underlying hu, getObj, setObj, Sem.run, h1, hck, g1, zeroValue, typeInfo, hinf2, hz2, goInt]
              obtain ⟨hE, hW'⟩ := setObj_ok (clk' := clk + 1) hW hr (hEO.push (e := { key := v, val := ie.zero, born := clk }) (p := ⟨clk, k, z⟩) ⟨rfl, hk, zeroD_ok hzd w _⟩)
              exact ⟨_, _, _, by rw [Lim_ρ]; exact hrun, rfl, V_tup2 (zeroD_ok hzd _ _) (.int _ _), hW', hE⟩
        · cases h
      · cases h
    · cases h
  · cases h

def entryStoreE (g : Nat → Option AO) (m st x : D) : Option Eff :=
  match m, st with
  | .map r, .int _ b => (match g r with
    | some (.map es clk) => (es.findIdx? fun e => (e.born : Int) == b).map fun i => .put r (.map (es.modify i fun e => { e with val := x }) clk)
    | _ => none)
  | _, _ => none

theorem findBorn {w : World} {L : Lk} (b : Int) : ∀ (en : List MapEntry) (es : List ME), EntsOK w L en es → en.findIdx? (fun e => (e.born : Int) == b) = es.findIdx? fun e => (e.born : Int) == b
  | [], [], _ => rfl
  | [], _ :: _, h => by simp [EntsOK] at h
  | _ :: _, [], h => by simp [EntsOK] at h
  | e :: en, p :: es, h => by
    obtain ⟨h1, _⟩ := h.head
    simp only [List.findIdx?_cons, h1, findBorn b en es h.tail]

theorem entryStoreE_ok {P : Program} {t : TypeId} {m st x : D} {s : GH} {f : Eff} {w : World} {u v y : Value} (hW : W s w) (hm : V w (Lim s) u m) (hk : V w (Lim s) v st) (hx : V w (Lim s) y x) (h : entryStoreE s.σ.get m st x = some f) :
    UOK P (Instr.entryStore t u v y) w s f := by
  unfold entryStoreE at h
  split at h
  · rename_i r k b
    split at h
    · rename_i es clk hr
      cases hm with
      | map _ hlt =>
      cases hk
      obtain ⟨en, h1, hEO⟩ := hW.obj r _ hr
      cases hf : es.findIdx? (fun e => (e.born : Int) == b) with
      | none => rw [hf] at h; cases h
      | some i =>
        rw [hf] at h
        cases h
        have hfe : en.findIdx? (fun e => (e.born : Int) == b) = some i := by
          rw [← hf, ← findBorn b en.toList es hEO]
          rcases en with ⟨l⟩
          simp
        have hrun : (Instr.entryStore t (.map (some (s.ρ r).blk)) (.int k b) y).run P w = .ok () { w with heap := w.heap.setIfInBounds (s.ρ r).blk (.map (en.modify i fun e => { e with val := y }) clk) } := by
          simp [Instr.entryStore, getObj, setObj, Sem.run, h1, asInt, asIntOf, hfe]
        obtain ⟨hE, hW'⟩ := setObj_ok (clk' := clk) hW hr (hEO.modify (a := i) (F := fun e => { e with val := y }) (G := fun e => { e with val := x }) (fun e p h1 h2 _ => ⟨h1, h2, hx⟩))
        exact ⟨_, _, by rw [Lim_ρ]; exact hrun, rfl, hW', hE⟩
    · cases h
  · cases h

def deleteE (Z : Sys) (g : Nat → Option AO) (ts : Array TypeId) (m k : D) : Option Eff :=
  match (ts[0]?.bind Z.T).map TInfo.d, m with
  | some (.map kt et), .nilmap => if keyFits Z kt k = true then some .keep else none
  | some (.map kt et), .map r => (match g r with
    | some (.map es clk) => if keyFits Z kt k = true then
        (match findD Z kt k es 0 with
        | some (some (i, _)) => some (.put r (.map (es.eraseIdx i) clk))
        | some none => some (.put r (.map es clk))
        | none => none)
        else none
    | _ => none)
  | _, _ => none

theorem deleteE_ok {Z : Sys} {ts : Array TypeId} {ty : TypeId} {m k : D} {s : GH} {f : Eff} {w : World} {u v : Value} (hW : W s w) (hm : V w (Lim s) u m) (hk : V w (Lim s) v k) (h : deleteE Z s.σ.get ts m k = some f) :
    EOK Z.P (Builtin.delete_ ts ty #[u, v]) w s (.tup []) f := by
  have hts : ∀ kt et, (ts[0]?.bind Z.T).map TInfo.d = some (.map kt et) → ∃ t, ts[0]? = some t ∧ Z.P.underlying t = some (.map kt et) := fun kt et hT => by
    cases ht : ts[0]? with
    | none => rw [ht] at hT; cases hT
    | some t =>
      rw [ht] at hT
      simp only [Option.bind_some] at hT
      cases hq : Z.T t with
      | none => rw [hq] at hT; cases hT
      | some it =>
        rw [hq] at hT
        have hd : it.d = .map kt et := by simpa using hT
        exact ⟨t, rfl, hd ▸ (Z.out hq).1⟩
  have tup0 : ∀ w L, V w L (.tuple #[]) (.tup []) := fun w L => .tup _ _ rfl (fun i hi => absurd hi (by simp))
  unfold deleteE at h
  split at h
  · rename_i kt et hT
    obtain ⟨t, ht, hu⟩ := hts kt et hT
    split at h
    · rename_i hfit
      cases h
      cases hm
      have hck := keyFits_ok hk hfit true
      exact EOK.pure hW (v := .tuple #[]) (by simp [Builtin.delete_, ht, run_underlying hu, hck]) (tup0 _ _)
    · cases h
  · rename_i kt et r hT
    obtain ⟨t, ht, hu⟩ := hts kt et hT
    split at h
    · rename_i es clk hr
      split at h
      · rename_i hfit
        cases hm with
        | map _ hlt =>
        obtain ⟨en, h1, hEO⟩ := hW.obj r _ hr
        have hck := fun em => keyFits_ok hk hfit em
        split at h
        · rename_i a d0 hf
          cases h
          obtain ⟨hen, hes, g1, _⟩ := found_some hk hEO hfit hf
          have hEO' : EntsOK w (Lim s) (en.eraseIdxIfInBounds a).toList (es.eraseIdx a) := by
            have e1 : (en.eraseIdxIfInBounds a).toList = en.toList.eraseIdx a := by simp [Array.eraseIdxIfInBounds, hen]
            rw [e1]
            refine ⟨by rw [List.length_eraseIdx, List.length_eraseIdx, hEO.1], fun i hi => ?_⟩
            have hi2 : i < es.length - 1 := by rw [List.length_eraseIdx, if_pos hes] at hi; exact hi
            rw [List.getD, List.getElem?_eraseIdx, List.getElem_eraseIdx]
            split
            · have := hEO.2 i (by omega); simpa [List.getD] using this
            · have := hEO.2 (i + 1) (by omega); simpa [List.getD] using this
          have hrun : (Builtin.delete_ ts ty #[.map (some (s.ρ r).blk), v]).run Z.P w = .ok (.tuple #[]) { w with heap := w.heap.setIfInBounds (s.ρ r).blk (.map (en.eraseIdxIfInBounds a) clk) } := by
            simp [Builtin.delete_, ht, run_underlying hu, getObj, setObj, Sem.run, h1, hck, g1]
          obtain ⟨hE, hW'⟩ := setObj_ok (clk' := clk) hW hr hEO'
          exact ⟨_, _, _, by rw [Lim_ρ]; exact hrun, rfl, tup0 _ _, hW', hE⟩
        · rename_i hf
          cases h
          obtain ⟨q', g1, g2⟩ := findKey_ok hk hEO hfit hf
          cases q' with
          | some p => exact g2.elim
          | none =>
            have hrun : (Builtin.delete_ ts ty #[.map (some (s.ρ r).blk), v]).run Z.P w = .ok (.tuple #[]) { w with heap := w.heap.setIfInBounds (s.ρ r).blk (.map en clk) } := by
              simp [Builtin.delete_, ht, run_underlying hu, getObj, setObj, Sem.run, h1, hck, g1]
            obtain ⟨hE, hW'⟩ := setObj_ok (clk' := clk) hW hr hEO
            exact ⟨_, _, _, by rw [Lim_ρ]; exact hrun, rfl, tup0 _ _, hW', hE⟩
        · cases h
      · cases h
    · cases h
  · cases h
end Go.Proofs.YthchlpikcpidaaaDoor.Vs
