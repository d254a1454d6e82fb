/- numbers of YtpmjfoplpccblaaDoor -/
import Derived.Test.YtpmjfoplpccblaaDoorFmB
namespace Go.Proofs.YtpmjfoplpccblaaDoor.Vs
set_option linter.unusedVariables false
set_option linter.unusedSimpArgs false
set_option maxRecDepth 100000
def mkD (k : Int) (f v : ByteArray) : D := .agg [.int .u8 k, .str f, .str v]
theorem ab35_0 : aBuilt Zs 35 [] = some [.int .u8 0, .str ⟨#[]⟩, .str ⟨#[]⟩] := by rfl
theorem ab35_1 (k : Int) : aBuilt Zs 35 [(0, .int .u8 k)] = some [.int .u8 k, .str ⟨#[]⟩, .str ⟨#[]⟩] := by rfl
theorem ab52 (k : Int) (f v : ByteArray) : aBuilt Zs 52 [(0, .agg [.int .u8 k, .str f, .str v])] = some [.int .u8 k, .str f, .str v] := by rfl
theorem hasValue_c (k : Int) (f v : ByteArray) : Fn Zs 32 [mkD k f v] (.bool (!(v == ⟨#[]⟩))) := by
  refine fn_of (Z := Zs) ok32 fun σ hcl hbl => ?_
  simp -dsimp only [L32, mkD, ↓preB, postB, genB, ↓reduceIte, Nat.reduceEqDiff, Int.reduceToNat, Int.reduceLE, Int.reduceLT, Nat.reduceAdd, Nat.reduceLeDiff, intBin, strBin, unD, extractD, lit1, lit2, lit3, keptD, boxR, D.one, D.pub1, D.cells, splice, cutOwn]
  exact Ret.isH (HLe.self_new _ hcl) hcl rfl (.bool _)
def okI (k : Int) (v : ByteArray) : Bool := if k = 80 ∨ k = 78 ∨ k = 85 then !(v == ⟨#[]⟩) else if k = 67 then (v == ⟨#[]⟩) else decide (k = 82) || decide (k = 68)
theorem ok_c (k : Int) (f v : ByteArray) : Fn Zs 22 [mkD k f v] (.bool (okI k v)) := by
  refine fn_of (Z := Zs) ok22 fun σ hcl hbl => ?_
  simp -dsimp only [L22, mkD, ↓preB, postB, genB, ↓reduceIte, Nat.reduceEqDiff, Int.reduceToNat, Int.reduceLE, Int.reduceLT, Nat.reduceAdd, Nat.reduceLeDiff, intBin, strBin, unD, extractD, lit1, lit2, lit3, keptD, boxR, D.one, D.pub1, D.cells, splice, cutOwn]
  have hle := HLe.self_new (σ := σ) (.cells 52 [.int .u8 k, .str f, .str v]) hcl
  have fin : ∀ b, b = okI k v → Ret σ (fun d τ => d = D.bool (okI k v) ∧ τ = σ) (D.bool b) (σ.new (.cells 52 [.int .u8 k, .str f, .str v])) := fun b hb => Ret.isH hle hcl (by rw [hb]) (.bool _)
  have hv := hasValue_c k f v
  unfold mkD at hv
  by_cases k1 : k = 80
  · subst k1
    simp -dsimp only [show ((80 : Int) == 80) = true from rfl, ↓preB, postB, genB, ↓reduceIte, Nat.reduceEqDiff, Int.reduceToNat, Int.reduceLE, Int.reduceLT, Nat.reduceAdd, Nat.reduceLeDiff, intBin, strBin, unD, extractD, lit1, lit2, lit3, keptD, boxR, D.one, D.pub1, D.cells, splice, cutOwn]
    refine Fn.use hv ?_
    simp -dsimp only [↓preB, postB, genB, ↓reduceIte, Nat.reduceEqDiff, Int.reduceToNat, Int.reduceLE, Int.reduceLT, Nat.reduceAdd, Nat.reduceLeDiff, intBin, strBin, unD, extractD, lit1, lit2, lit3, keptD, boxR, D.one, D.pub1, D.cells, splice, cutOwn]
    exact fin _ rfl
  by_cases k2 : k = 78
  · subst k2
    simp -dsimp only [show ((78 : Int) == 80) = false from rfl, show ((78 : Int) == 78) = true from rfl, ↓preB, postB, genB, ↓reduceIte, Nat.reduceEqDiff, Int.reduceToNat, Int.reduceLE, Int.reduceLT, Nat.reduceAdd, Nat.reduceLeDiff, intBin, strBin, unD, extractD, lit1, lit2, lit3, keptD, boxR, D.one, D.pub1, D.cells, splice, cutOwn]
    refine Fn.use hv ?_
    simp -dsimp only [↓preB, postB, genB, ↓reduceIte, Nat.reduceEqDiff, Int.reduceToNat, Int.reduceLE, Int.reduceLT, Nat.reduceAdd, Nat.reduceLeDiff, intBin, strBin, unD, extractD, lit1, lit2, lit3, keptD, boxR, D.one, D.pub1, D.cells, splice, cutOwn]
    exact fin _ rfl
  by_cases k3 : k = 85
  · subst k3
    simp -dsimp only [show ((85 : Int) == 80) = false from rfl, show ((85 : Int) == 78) = false from rfl, show ((85 : Int) == 85) = true from rfl, ↓preB, postB, genB, ↓reduceIte, Nat.reduceEqDiff, Int.reduceToNat, Int.reduceLE, Int.reduceLT, Nat.reduceAdd, Nat.reduceLeDiff, intBin, strBin, unD, extractD, lit1, lit2, lit3, keptD, boxR, D.one, D.pub1, D.cells, splice, cutOwn]
    refine Fn.use hv ?_
    simp -dsimp only [↓preB, postB, genB, ↓reduceIte, Nat.reduceEqDiff, Int.reduceToNat, Int.reduceLE, Int.reduceLT, Nat.reduceAdd, Nat.reduceLeDiff, intBin, strBin, unD, extractD, lit1, lit2, lit3, keptD, boxR, D.one, D.pub1, D.cells, splice, cutOwn]
    exact fin _ rfl
  have e1 : (k == 80) = false := by simpa using k1
  have e2 : (k == 78) = false := by simpa using k2
  have e3 : (k == 85) = false := by simpa using k3
  by_cases k4 : k = 67
  · subst k4
    simp -dsimp only [e1, e2, e3, show ((67 : Int) == 67) = true from rfl, ↓preB, postB, genB, ↓reduceIte, Nat.reduceEqDiff, Int.reduceToNat, Int.reduceLE, Int.reduceLT, Nat.reduceAdd, Nat.reduceLeDiff, intBin, strBin, unD, extractD, lit1, lit2, lit3, keptD, boxR, D.one, D.pub1, D.cells, splice, cutOwn]
    refine Fn.use hv ?_
    simp -dsimp only [Bool.not_not, ↓preB, postB, genB, ↓reduceIte, Nat.reduceEqDiff, Int.reduceToNat, Int.reduceLE, Int.reduceLT, Nat.reduceAdd, Nat.reduceLeDiff, intBin, strBin, unD, extractD, lit1, lit2, lit3, keptD, boxR, D.one, D.pub1, D.cells, splice, cutOwn]
    exact fin _ rfl
  have e4 : (k == 67) = false := by simpa using k4
  have hgo : okI k v = (decide (k = 82) || decide (k = 68)) := by
    unfold okI
    rw [if_neg (by omega), if_neg k4]
  by_cases k5 : k = 82
  · have e5 : (k == 82) = true := by simpa using k5
    simp -dsimp only [e1, e2, e3, e4, e5, gate, show (true == false) = false from rfl, ↓preB, postB, genB, ↓reduceIte, Nat.reduceEqDiff, Int.reduceToNat, Int.reduceLE, Int.reduceLT, Nat.reduceAdd, Nat.reduceLeDiff, intBin, strBin, unD, extractD, lit1, lit2, lit3, keptD, boxR, D.one, D.pub1, D.cells, splice, cutOwn]
    exact fin _ (by rw [hgo, decide_eq_true k5]; rfl)
  · have e5 : (k == 82) = false := by simpa using k5
    have e6 : (k == 68) = decide (k = 68) := rfl
    simp -dsimp only [e1, e2, e3, e4, e5, e6, gate, show (false == false) = true from rfl, ↓preB, postB, genB, ↓reduceIte, Nat.reduceEqDiff, Int.reduceToNat, Int.reduceLE, Int.reduceLT, Nat.reduceAdd, Nat.reduceLeDiff, intBin, strBin, unD, extractD, lit1, lit2, lit3, keptD, boxR, D.one, D.pub1, D.cells, splice, cutOwn]
    exact fin _ (by rw [hgo, decide_eq_false k5, Bool.false_or])
theorem okI_okK (c : UInt8) (v : List UInt8) : okI (c.toNat : Int) (toB v) = okK c v := by
  have e : ∀ n : UInt8, ((c.toNat : Int) = (n.toNat : Int)) ↔ c = n := fun n => ⟨fun h => UInt8.toNat_inj.1 (by omega), fun h => by rw [h]⟩
  have e80 := e 80; have e78 := e 78; have e85 := e 85; have e67 := e 67; have e82 := e 82; have e68 := e 68
  simp only [show ((80 : UInt8).toNat : Int) = 80 from rfl, show ((78 : UInt8).toNat : Int) = 78 from rfl, show ((85 : UInt8).toNat : Int) = 85 from rfl, show ((67 : UInt8).toNat : Int) = 67 from rfl, show ((82 : UInt8).toNat : Int) = 82 from rfl, show ((68 : UInt8).toNat : Int) = 68 from rfl] at e80 e78 e85 e67 e82 e68
  unfold okI okK
  simp only [e80, e78, e85, e67, e82, e68, toB_e]
def mkV (l : List UInt8) : D := if mkParts l = true then mkD ((l.getD 1 0).toNat : Int) (toB (headL 46 (midL l))) (toB (tailL 46 (midL l))) else mkD 0 ⟨#[]⟩ ⟨#[]⟩
theorem at_of {l : List UInt8} {k : Nat} (h : k < l.length) : byteAt (toB l) k = ((l[k]).toNat : Int) := toB_at (List.drop_eq_getElem_cons h)
theorem ne_of (c n : UInt8) : ((c.toNat : Int) != (n.toNat : Int)) = !decide (c = n) := by
  by_cases h : c = n
  · subst h; simp
  · rw [decide_eq_false h]
    simp only [Bool.not_false, bne_iff_ne, ne_eq]
    exact fun e => h (UInt8.toNat_inj.1 (by omega))
theorem frame_of {l : List UInt8} (h : 5 ≤ l.length) : frame l = (decide (l[0] = 64) && (decide (l[2] = 46) && decide (l[l.length - 1] = 64))) := by
  unfold frame
  rw [decide_eq_true h, List.getElem?_eq_getElem (by omega), List.getElem?_eq_getElem (by omega), List.getElem?_eq_getElem (by omega)]
  simp
theorem frame_no {l : List UInt8} (h : ¬ 5 ≤ l.length) : frame l = false := by
  unfold frame
  rw [decide_eq_false h]; rfl
theorem mid_ext {l : List UInt8} : (toB l).extract 3 (l.length - 1) = toB (midL l) := toB_extract _ _ _
theorem midL_len (l : List UInt8) : (midL l).length ≤ l.length := by
  unfold midL
  rw [List.length_drop, List.length_take]; omega
theorem bel_mk {N : Nat} (k : Int) (f v : ByteArray) : Bel N (mkD k f v) := .agg _ fun d hd => by
  simp only [List.mem_cons, List.not_mem_nil, or_false] at hd
  rcases hd with rfl | rfl | rfl <;> constructor
theorem ares_ct {Z : Sys} {t a c r off : Nat} {e : TypeId} {cs : List D} {d : D} {env : Env} {g : Nat → Option AO} {i : TInfo} (hT : Z.T t = some i) (ha : env a = .ptr r off) (hg : g r = some (.cells e cs)) (hp : pack i (cs.drop off) = some d) : ares Z [.cell a t, .tmp c] env g = some (.tup [d, env c]) := by
  simp only [ares, rvs, rv, hT, ha, hg, hp]
theorem pack35 (k : Int) (f v : ByteArray) : ∀ i, Zs.T 35 = some i → pack i ([D.int .u8 k, .str f, .str v].drop 0) = some (mkD k f v) := fun i hi => by
  rw [tz35] at hi; cases hi
  rfl
theorem read_c (l : List UInt8) (hs : l.length ≤ 100000) : Fn Zs 12 [.str (toB l)] (.tup [mkV l, .bool (isMk l)]) := by
  refine fn_of (Z := Zs) ok12 fun σ hcl hbl => ?_
  simp -dsimp only [L12, ↓preB, postB, genB, ↓reduceIte, Nat.reduceEqDiff, Int.reduceToNat, Int.reduceLE, Int.reduceLT, Nat.reduceAdd, Nat.reduceLeDiff, intBin, strBin, unD, extractD, lit1, lit2, lit3, keptD, boxR, D.one, D.pub1, D.cells, splice, cutOwn]
  have hsz := toB_size l
  have hle : ∀ o, HLe σ (σ.new o) := fun o => HLe.self_new o hcl
  have hbel : ∀ N, Bel N (mkV l) := fun N => by
    unfold mkV
    split
    · exact bel_mk _ _ _
    · exact bel_mk _ _ _
  have bad : ∀ s, HLe σ s → mkParts l = false → Ret σ (fun d τ => d = D.tup [mkV l, .bool (isMk l)] ∧ τ = σ) (D.tup [mkD 0 ⟨#[]⟩ ⟨#[]⟩, .bool false]) s := fun s hH h => by
    have e1 : mkV l = mkD 0 ⟨#[]⟩ ⟨#[]⟩ := by unfold mkV; rw [h]; rfl
    have e2 : isMk l = false := by rw [isMk_parts, h]; rfl
    exact Ret.isH hH hcl (by rw [e1, e2]) (.tup2 (hbel _) (.bool _))
  by_cases h5 : ¬ 5 ≤ l.length
  · have c5 : (l.length : Int) < 5 := by omega
    simp -dsimp only [hsz, c5, ab35_0, gate, decide_true, show (true == false) = false from rfl, ↓preB, postB, genB, ↓reduceIte, Nat.reduceEqDiff, Int.reduceToNat, Int.reduceLE, Int.reduceLT, Nat.reduceAdd, Nat.reduceLeDiff, intBin, strBin, unD, extractD, lit1, lit2, lit3, keptD, boxR, D.one, D.pub1, D.cells, splice, cutOwn]
    intros
    refine ⟨_, ares_ct (r := σ.next) tz35 (by simp [upd_apply]) (Heap.new_same _ _) (pack35 _ _ _ _ tz35), ?_⟩
    exact bad _ (hle _) (by unfold mkParts; rw [frame_no h5]; rfl)
  have h5' : 5 ≤ l.length := by omega
  have c5 : ¬ (l.length : Int) < 5 := by omega
  have hf := frame_of h5'
  have b0 := at_of (l := l) (k := 0) (by omega)
  have b1 := at_of (l := l) (k := 1) (by omega)
  have b2 := at_of (l := l) (k := 2) (by omega)
  have bn := at_of (l := l) (k := l.length - 1) (by omega)
  have g1 : l.getD 1 0 = l[1] := by rw [List.getD_eq_getElem?_getD, List.getElem?_eq_getElem (by omega)]; rfl
  have hw1 : IntKind.i64.wrap ((l.length : Int) - 1) = ((l.length - 1 : Nat) : Int) := by rw [wrap64_in (by omega) (by omega)]; omega
  have i0 : (0 : Int) < l.length := by omega
  have i1 : (1 : Int) < l.length := by omega
  have i2 : (2 : Int) < l.length := by omega
  have i3 : l.length - 1 < l.length := by omega
  have n0 := ne_of l[0] 64
  have n2 := ne_of l[2] 46
  have nn := ne_of l[l.length - 1] 64
  simp only [show ((64 : UInt8).toNat : Int) = 64 from rfl, show ((46 : UInt8).toNat : Int) = 46 from rfl] at n0 n2 nn
  rw [← b0] at n0
  rw [← b2] at n2
  rw [← bn] at nn
  have hbad : frame l = false → mkParts l = false := fun h => by unfold mkParts; rw [h]; rfl
  by_cases k0 : ¬ l[0] = 64
  · rw [decide_eq_false k0] at n0 hf
    simp -dsimp only [hsz, c5, i0, n0, ab35_0, gate, decide_false, Bool.not_false, show (true == false) = false from rfl, show (false == false) = true from rfl, ↓preB, postB, genB, ↓reduceIte, Nat.reduceEqDiff, Int.reduceToNat, Int.reduceLE, Int.reduceLT, Nat.reduceAdd, Nat.reduceLeDiff, intBin, strBin, unD, extractD, lit1, lit2, lit3, keptD, boxR, D.one, D.pub1, D.cells, splice, cutOwn]
    intros
    refine ⟨_, ares_ct (r := σ.next) tz35 (by simp [upd_apply]) (Heap.new_same _ _) (pack35 _ _ _ _ tz35), ?_⟩
    exact bad _ (hle _) (hbad hf)
  have k0 : l[0] = 64 := Decidable.not_not.1 k0
  rw [decide_eq_true k0] at n0 hf
  by_cases k2 : ¬ l[2] = 46
  · rw [decide_eq_false k2] at n2 hf
    simp -dsimp only [hsz, c5, i0, i2, n0, n2, ab35_0, gate, decide_false, Bool.not_false, Bool.not_true, show (true == false) = false from rfl, show (false == false) = true from rfl, ↓preB, postB, genB, ↓reduceIte, Nat.reduceEqDiff, Int.reduceToNat, Int.reduceLE, Int.reduceLT, Nat.reduceAdd, Nat.reduceLeDiff, intBin, strBin, unD, extractD, lit1, lit2, lit3, keptD, boxR, D.one, D.pub1, D.cells, splice, cutOwn]
    intros
    refine ⟨_, ares_ct (r := σ.next) tz35 (by simp [upd_apply]) (Heap.new_same _ _) (pack35 _ _ _ _ tz35), ?_⟩
    exact bad _ (hle _) (hbad hf)
  have k2 : l[2] = 46 := Decidable.not_not.1 k2
  rw [decide_eq_true k2] at n2 hf
  by_cases kn : ¬ l[l.length - 1] = 64
  · rw [decide_eq_false kn] at nn hf
    simp -dsimp only [hsz, c5, i0, i2, i3, n0, n2, nn, hw1, ab35_0, gate, decide_false, Bool.not_false, Bool.not_true, show (true == false) = false from rfl, show (false == false) = true from rfl, ↓preB, postB, genB, ↓reduceIte, Nat.reduceEqDiff, Int.reduceToNat, Int.reduceLE, Int.reduceLT, Nat.reduceAdd, Nat.reduceLeDiff, intBin, strBin, unD, extractD, lit1, lit2, lit3, keptD, boxR, D.one, D.pub1, D.cells, splice, cutOwn]
    intros
    refine ⟨_, ares_ct (r := σ.next) tz35 (by simp [upd_apply]) (Heap.new_same _ _) (pack35 _ _ _ _ tz35), ?_⟩
    exact bad _ (hle _) (hbad hf)
  have kn : l[l.length - 1] = 64 := Decidable.not_not.1 kn
  rw [decide_eq_true kn] at nn hf
  have hg1 : ∀ o, ((σ.new (.cells 35 [.int .u8 0, .str ⟨#[]⟩, .str ⟨#[]⟩])).new o).get (σ.next + 1) = some o := fun o => Heap.new_same (σ := σ.new (.cells 35 [.int .u8 0, .str ⟨#[]⟩, .str ⟨#[]⟩])) o
  have hs1 : ∀ o o', ((σ.new (.cells 35 [.int .u8 0, .str ⟨#[]⟩, .str ⟨#[]⟩])).new o).set (σ.next + 1) o' = (σ.new (.cells 35 [.int .u8 0, .str ⟨#[]⟩, .str ⟨#[]⟩])).new o' := fun o o' => Heap.new_set (σ := σ.new (.cells 35 [.int .u8 0, .str ⟨#[]⟩, .str ⟨#[]⟩])) o o'
  have hg0 : ∀ o, ((σ.new (.cells 35 [.int .u8 0, .str ⟨#[]⟩, .str ⟨#[]⟩])).new o).get σ.next = some (.cells 35 [.int .u8 0, .str ⟨#[]⟩, .str ⟨#[]⟩]) := fun o => by
    rw [Heap.new_ne (h := by rw [Heap.next_new]; omega)]
    exact Heap.new_same _ _
  have hle2 : ∀ o o', HLe σ (((σ.new (.cells 35 [.int .u8 0, .str ⟨#[]⟩, .str ⟨#[]⟩])).new o).set σ.next o') := fun o o' => ((hle _).new' o hcl).set_out _ hcl (Nat.le_refl _)
  have j3 : (3 : Int) ≤ ((l.length - 1 : Nat) : Int) := by omega
  have j4 : ((l.length - 1 : Nat) : Int) ≤ l.length := by omega
  have hmid := mid_ext (l := l)
  simp -dsimp only [hsz, c5, i0, i1, i2, i3, n0, n2, nn, hw1, b1, ab35_0, ab35_1, hg1, hs1, gate, decide_false, Bool.not_false, Bool.not_true, show (true == false) = false from rfl, show (false == false) = true from rfl, List.length_cons, List.length_nil, List.drop_succ_cons, List.drop_zero, List.drop_nil, ↓preB, postB, genB, ↓reduceIte, Nat.reduceEqDiff, Int.reduceToNat, Int.reduceLE, Int.reduceLT, Nat.reduceAdd, Nat.reduceLeDiff, intBin, strBin, unD, extractD, lit1, lit2, lit3, keptD, boxR, D.one, D.pub1, D.cells, splice, cutOwn]
  intros
  refine ⟨⟨j3, j4⟩, ?_⟩
  rw [hmid]
  have hml := midL_len l
  refine Fn.use (Cut_c (midL l) 46 (by omega)) ?_
  have hfl := headL_len 46 (midL l)
  have htl := tailL_len 46 (midL l)
  have hmp : mkParts l = (partL (headL 46 (midL l)) && (!decide (46 ∈ midL l) || partL (tailL 46 (midL l)))) := by
    unfold mkParts
    rw [hf]; rfl
  have hmv : mkParts l = true → mkV l = mkD ((l[1]).toNat : Int) (toB (headL 46 (midL l))) (toB (tailL 46 (midL l))) := fun h => by
    unfold mkV
    rw [if_pos h, g1]
  have hmk : mkParts l = true → isMk l = okI ((l[1]).toNat : Int) (toB (tailL 46 (midL l))) := fun h => by
    rw [isMk_parts, h, g1, okI_okK, Bool.true_and]
  generalize tailL 46 (midL l) = T at *
  generalize headL 46 (midL l) = F at *
  simp -dsimp only [hg1, hs1, List.length_cons, List.length_nil, List.drop_succ_cons, List.drop_zero, List.take_succ_cons, List.take_zero, List.cons_append, List.nil_append, ↓preB, postB, genB, ↓reduceIte, Nat.reduceEqDiff, Int.reduceToNat, Int.reduceLE, Int.reduceLT, Nat.reduceAdd, Nat.reduceLeDiff, intBin, strBin, unD, extractD, lit1, lit2, lit3, keptD, boxR, D.one, D.pub1, D.cells, splice, cutOwn]
  refine Fn.use (isPart_c F (by omega)) ?_
  have hok := ok_c ((l[1]).toNat : Int) (toB F) (toB T)
  unfold mkD at hok
  cases hpf : partL F
  · rw [hpf] at hmp
    simp -dsimp only [hpf, hg0, ab35_0, gate, Bool.not_false, show (true == false) = false from rfl, show (false == false) = true from rfl, show (true == true) = true from rfl, show (false == true) = false from rfl, List.length_cons, List.length_nil, List.drop_succ_cons, List.drop_zero, List.drop_nil, ↓preB, postB, genB, ↓reduceIte, Nat.reduceEqDiff, Int.reduceToNat, Int.reduceLE, Int.reduceLT, Nat.reduceAdd, Nat.reduceLeDiff, intBin, strBin, unD, extractD, lit1, lit2, lit3, keptD, boxR, D.one, D.pub1, D.cells, splice, cutOwn]
    refine ⟨_, ares_ct (r := σ.next) tz35 (by simp [upd_apply]) (Heap.set_same _ _ _) (pack35 _ _ _ _ tz35), ?_⟩
    exact bad _ (hle2 _ _) hmp
  rw [hpf, Bool.true_and] at hmp
  cases htw : decide (46 ∈ midL l)
  · rw [htw] at hmp
    have hmt : mkParts l = true := hmp
    simp -dsimp only [hpf, htw, hg0, ab35_0, gate, Bool.not_true, show (true == false) = false from rfl, show (false == false) = true from rfl, show (true == true) = true from rfl, show (false == true) = false from rfl, ↓preB, postB, genB, ↓reduceIte, Nat.reduceEqDiff, Int.reduceToNat, Int.reduceLE, Int.reduceLT, Nat.reduceAdd, Nat.reduceLeDiff, intBin, strBin, unD, extractD, lit1, lit2, lit3, keptD, boxR, D.one, D.pub1, D.cells, splice, cutOwn]
    refine draw_t 4 (by decide) ?_
    simp -dsimp only [hg1, hg0, ab52, List.length_cons, List.length_nil, List.take_succ_cons, List.take_zero, List.drop_succ_cons, List.drop_zero, ↓preB, postB, genB, ↓reduceIte, Nat.reduceEqDiff, Int.reduceToNat, Int.reduceLE, Int.reduceLT, Nat.reduceAdd, Nat.reduceLeDiff, intBin, strBin, unD, extractD, lit1, lit2, lit3, keptD, boxR, D.one, D.pub1, D.cells, splice, cutOwn]
    refine Fn.useS hok ?_
    simp -dsimp only [hg1, hg0, ab52, List.length_cons, List.length_nil, List.take_succ_cons, List.take_zero, List.drop_succ_cons, List.drop_zero, List.drop_nil, List.cons_append, List.nil_append, ↓preB, postB, genB, ↓reduceIte, Nat.reduceEqDiff, Int.reduceToNat, Int.reduceLE, Int.reduceLT, Nat.reduceAdd, Nat.reduceLeDiff, intBin, strBin, unD, extractD, lit1, lit2, lit3, keptD, boxR, D.one, D.pub1, D.cells, splice, cutOwn]
    refine ⟨_, ares_ct (r := σ.next) tz35 (by simp [upd_apply]) (Heap.set_same _ _ _) (pack35 _ _ _ _ tz35), ?_⟩
    exact Ret.isH (hle2 _ _) hcl (by rw [hmv hmt, hmk hmt]; rfl) (.tup2 (hbel _) (.bool _))
  · rw [htw, Bool.not_true, Bool.false_or] at hmp
    simp -dsimp only [hpf, htw, hg0, ab35_0, gate, Bool.not_true, show (true == false) = false from rfl, show (false == false) = true from rfl, show (true == true) = true from rfl, show (false == true) = false from rfl, ↓preB, postB, genB, ↓reduceIte, Nat.reduceEqDiff, Int.reduceToNat, Int.reduceLE, Int.reduceLT, Nat.reduceAdd, Nat.reduceLeDiff, intBin, strBin, unD, extractD, lit1, lit2, lit3, keptD, boxR, D.one, D.pub1, D.cells, splice, cutOwn]
    refine Fn.use (isPart_c T (by omega)) ?_
    cases hpt : partL T
    · rw [hpt] at hmp
      simp -dsimp only [hpt, hg0, ab35_0, gate, Bool.not_false, show (true == false) = false from rfl, show (false == false) = true from rfl, show (true == true) = true from rfl, show (false == true) = false from rfl, List.length_cons, List.length_nil, List.drop_succ_cons, List.drop_zero, List.drop_nil, ↓preB, postB, genB, ↓reduceIte, Nat.reduceEqDiff, Int.reduceToNat, Int.reduceLE, Int.reduceLT, Nat.reduceAdd, Nat.reduceLeDiff, intBin, strBin, unD, extractD, lit1, lit2, lit3, keptD, boxR, D.one, D.pub1, D.cells, splice, cutOwn]
      refine ⟨_, ares_ct (r := σ.next) tz35 (by simp [upd_apply]) (Heap.set_same _ _ _) (pack35 _ _ _ _ tz35), ?_⟩
      exact bad _ (hle2 _ _) hmp
    · rw [hpt] at hmp
      simp -dsimp only [hpt, hg0, ab35_0, gate, Bool.not_true, show (true == false) = false from rfl, show (false == false) = true from rfl, show (true == true) = true from rfl, show (false == true) = false from rfl, ↓preB, postB, genB, ↓reduceIte, Nat.reduceEqDiff, Int.reduceToNat, Int.reduceLE, Int.reduceLT, Nat.reduceAdd, Nat.reduceLeDiff, intBin, strBin, unD, extractD, lit1, lit2, lit3, keptD, boxR, D.one, D.pub1, D.cells, splice, cutOwn]
      refine draw_t 4 (by decide) ?_
      simp -dsimp only [hg1, hg0, ab52, List.length_cons, List.length_nil, List.take_succ_cons, List.take_zero, List.drop_succ_cons, List.drop_zero, ↓preB, postB, genB, ↓reduceIte, Nat.reduceEqDiff, Int.reduceToNat, Int.reduceLE, Int.reduceLT, Nat.reduceAdd, Nat.reduceLeDiff, intBin, strBin, unD, extractD, lit1, lit2, lit3, keptD, boxR, D.one, D.pub1, D.cells, splice, cutOwn]
      refine Fn.useS hok ?_
      simp -dsimp only [hg1, hg0, ab52, List.length_cons, List.length_nil, List.take_succ_cons, List.take_zero, List.drop_succ_cons, List.drop_zero, List.drop_nil, List.cons_append, List.nil_append, ↓preB, postB, genB, ↓reduceIte, Nat.reduceEqDiff, Int.reduceToNat, Int.reduceLE, Int.reduceLT, Nat.reduceAdd, Nat.reduceLeDiff, intBin, strBin, unD, extractD, lit1, lit2, lit3, keptD, boxR, D.one, D.pub1, D.cells, splice, cutOwn]
      refine ⟨_, ares_ct (r := σ.next) tz35 (by simp [upd_apply]) (Heap.set_same _ _ _) (pack35 _ _ _ _ tz35), ?_⟩
      exact Ret.isH (hle2 _ _) hcl (by rw [hmv hmp, hmk hmp]; rfl) (.tup2 (hbel _) (.bool _))
end Go.Proofs.YtpmjfoplpccblaaDoor.Vs
