/- numbers of YtpmjfoplpccblaaDoor -/
import Derived.Test.YtpmjfoplpccblaaDoorFmC
namespace Go.Proofs.YtpmjfoplpccblaaDoor.Vs
set_option linter.unusedVariables false
set_option linter.unusedSimpArgs false
set_option maxRecDepth 100000
theorem mkV_is (l : List UInt8) : ∃ k f v, mkV l = .agg [.int .u8 k, .str f, .str v] := by
  unfold mkV
  split
  · exact ⟨_, _, _, rfl⟩
  · exact ⟨_, _, _, rfl⟩
theorem Is_c (l : List UInt8) (hs : l.length ≤ 100000) : Fn Zs 6 [.str (toB l)] (.bool (isMk l)) := by
  refine fn_of (Z := Zs) ok6 fun σ hcl hbl => ?_
  simp -dsimp only [L6, ↓preB, postB, genB, ↓reduceIte, Nat.reduceEqDiff, Int.reduceToNat, Int.reduceLE, Int.reduceLT, Nat.reduceAdd, Nat.reduceLeDiff, intBin, strBin, unD, extractD, lit1, lit2, lit3, keptD, boxR, D.one, D.pub1, D.cells, splice, cutOwn]
  refine Fn.use (read_c l hs) ?_
  obtain ⟨k, f, v, hm⟩ := mkV_is l
  rw [hm]
  simp -dsimp only [↓preB, postB, genB, ↓reduceIte, Nat.reduceEqDiff, Int.reduceToNat, Int.reduceLE, Int.reduceLT, Nat.reduceAdd, Nat.reduceLeDiff, intBin, strBin, unD, extractD, lit1, lit2, lit3, keptD, boxR, D.one, D.pub1, D.cells, splice, cutOwn]
  exact Ret.isH (HLe.self_new _ hcl) hcl rfl (.bool _)
def rfD (k : Int) (f v : ByteArray) (b : Bool) : D := .agg [.int .u8 k, .str f, .str v, .bool b]
theorem ab39_0 : aBuilt Zs 39 [] = some [.int .u8 0, .str ⟨#[]⟩, .str ⟨#[]⟩, .bool false] := by rfl
theorem ab39_3 (k : Int) (f : ByteArray) : aBuilt Zs 39 [(0, .int .u8 k), (1, .str f), (3, .bool true)] = some [.int .u8 k, .str f, .str ⟨#[]⟩, .bool true] := by rfl
theorem ares_c1 {Z : Sys} {t a r off : Nat} {e : TypeId} {cs : List D} {d : D} {env : Env} {g : Nat → Option AO} {i : TInfo} (hT : Z.T t = some i) (ha : env a = .ptr r off) (hg : g r = some (.cells e cs)) (hp : pack i (cs.drop off) = some d) : ares Z [.cell a t] env g = some d := by
  simp only [ares, rvs, rv, hT, ha, hg, hp]
theorem pack39 (k : Int) (f v : ByteArray) (b : Bool) : ∀ i, Zs.T 39 = some i → pack i ([D.int .u8 k, .str f, .str v, .bool b].drop 0) = some (rfD k f v b) := fun i hi => by
  rw [tz39] at hi; cases hi
  rfl
def rfV (l : List UInt8) : D := if isMk l = true then rfD ((l.getD 1 0).toNat : Int) (toB (headL 46 (midL l))) (toB (tailL 46 (midL l))) true else rfD 0 ⟨#[]⟩ ⟨#[]⟩ false
theorem bel_rf {N : Nat} (k : Int) (f v : ByteArray) (b : Bool) : Bel N (rfD k f v b) := .agg _ fun d hd => by
  simp only [List.mem_cons, List.not_mem_nil, or_false] at hd
  rcases hd with rfl | rfl | rfl | rfl <;> constructor
theorem isMk_rf {l : List UInt8} (h : frame l = true) : isMk l = bodyRf (l.getD 1 0) (midL l) := by
  rw [isMk, h, body_eq]; rfl
set_option maxHeartbeats 4000000 in
theorem markOf_c (l : List UInt8) (hs : l.length ≤ 100000) : Fn Zs 13 [.str (toB l)] (rfV l) := by
  refine fn_of (Z := Zs) ok13 fun σ hcl hbl => ?_
  simp -dsimp only [L13, ↓preB, postB, genB, ↓reduceIte, Nat.reduceEqDiff, Int.reduceToNat, Int.reduceLE, Int.reduceLT, Nat.reduceAdd, Nat.reduceLeDiff, intBin, strBin, unD, extractD, lit1, lit2, lit3, keptD, boxR, D.one, D.pub1, D.cells, splice, cutOwn]
  have hsz := toB_size l
  have hle : ∀ o, HLe σ (σ.new o) := fun o => HLe.self_new o hcl
  have hbel : ∀ N, Bel N (rfV l) := fun N => by
    unfold rfV
    split
    · exact bel_rf _ _ _ _
    · exact bel_rf _ _ _ _
  have bad : ∀ s, HLe σ s → isMk l = false → Ret σ (fun d τ => d = rfV l ∧ τ = σ) (rfD 0 ⟨#[]⟩ ⟨#[]⟩ false) s := fun s hH h => by
    have e1 : rfV l = rfD 0 ⟨#[]⟩ ⟨#[]⟩ false := by unfold rfV; rw [h]; rfl
    exact Ret.isH hH hcl (by rw [e1]) (hbel _)
  have hbad : frame l = false → isMk l = false := fun h => by unfold isMk; rw [h]; rfl
  by_cases h5 : ¬ 5 ≤ l.length
  · have c5 : (l.length : Int) < 5 := by omega
    simp -dsimp only [hsz, c5, ab39_0, gate, decide_true, show (true == false) = false from rfl, ↓preB, postB, genB, ↓reduceIte, Nat.reduceEqDiff, Int.reduceToNat, Int.reduceLE, Int.reduceLT, Nat.reduceAdd, Nat.reduceLeDiff, intBin, strBin, unD, extractD, lit1, lit2, lit3, keptD, boxR, D.one, D.pub1, D.cells, splice, cutOwn]
    intros
    refine ⟨_, ares_c1 (r := σ.next) tz39 (by simp [upd_apply]) (Heap.new_same _ _) (pack39 _ _ _ _ _ tz39), ?_⟩
    exact bad _ (hle _) (hbad (frame_no h5))
  have h5' : 5 ≤ l.length := by omega
  have c5 : ¬ (l.length : Int) < 5 := by omega
  have hf := frame_of h5'
  have b0 := at_of (l := l) (k := 0) (by omega)
  have b1 := at_of (l := l) (k := 1) (by omega)
  have b2 := at_of (l := l) (k := 2) (by omega)
  have bn := at_of (l := l) (k := l.length - 1) (by omega)
  have g1 : l.getD 1 0 = l[1] := by rw [List.getD_eq_getElem?_getD, List.getElem?_eq_getElem (by omega)]; rfl
  have hw1 : IntKind.i64.wrap ((l.length : Int) - 1) = ((l.length - 1 : Nat) : Int) := by rw [wrap64_in (by omega) (by omega)]; omega
  have i0 : (0 : Int) < l.length := by omega
  have i1 : (1 : Int) < l.length := by omega
  have i2 : (2 : Int) < l.length := by omega
  have i3 : l.length - 1 < l.length := by omega
  have n0 := ne_of l[0] 64
  have n2 := ne_of l[2] 46
  have nn := ne_of l[l.length - 1] 64
  simp only [show ((64 : UInt8).toNat : Int) = 64 from rfl, show ((46 : UInt8).toNat : Int) = 46 from rfl] at n0 n2 nn
  rw [← b0] at n0
  rw [← b2] at n2
  rw [← bn] at nn
  by_cases k0 : ¬ l[0] = 64
  · rw [decide_eq_false k0] at n0 hf
    simp -dsimp only [hsz, c5, i0, n0, ab39_0, gate, decide_false, Bool.not_false, show (true == false) = false from rfl, show (false == false) = true from rfl, ↓preB, postB, genB, ↓reduceIte, Nat.reduceEqDiff, Int.reduceToNat, Int.reduceLE, Int.reduceLT, Nat.reduceAdd, Nat.reduceLeDiff, intBin, strBin, unD, extractD, lit1, lit2, lit3, keptD, boxR, D.one, D.pub1, D.cells, splice, cutOwn]
    intros
    refine ⟨_, ares_c1 (r := σ.next) tz39 (by simp [upd_apply]) (Heap.new_same _ _) (pack39 _ _ _ _ _ tz39), ?_⟩
    exact bad _ (hle _) (hbad hf)
  have k0 : l[0] = 64 := Decidable.not_not.1 k0
  rw [decide_eq_true k0] at n0 hf
  by_cases k2 : ¬ l[2] = 46
  · rw [decide_eq_false k2] at n2 hf
    simp -dsimp only [hsz, c5, i0, i2, n0, n2, ab39_0, gate, decide_false, Bool.not_false, Bool.not_true, show (true == false) = false from rfl, show (false == false) = true from rfl, ↓preB, postB, genB, ↓reduceIte, Nat.reduceEqDiff, Int.reduceToNat, Int.reduceLE, Int.reduceLT, Nat.reduceAdd, Nat.reduceLeDiff, intBin, strBin, unD, extractD, lit1, lit2, lit3, keptD, boxR, D.one, D.pub1, D.cells, splice, cutOwn]
    intros
    refine ⟨_, ares_c1 (r := σ.next) tz39 (by simp [upd_apply]) (Heap.new_same _ _) (pack39 _ _ _ _ _ tz39), ?_⟩
    exact bad _ (hle _) (hbad hf)
  have k2 : l[2] = 46 := Decidable.not_not.1 k2
  rw [decide_eq_true k2] at n2 hf
  by_cases kn : ¬ l[l.length - 1] = 64
  · rw [decide_eq_false kn] at nn hf
    simp -dsimp only [hsz, c5, i0, i2, i3, n0, n2, nn, hw1, ab39_0, gate, decide_false, Bool.not_false, Bool.not_true, show (true == false) = false from rfl, show (false == false) = true from rfl, ↓preB, postB, genB, ↓reduceIte, Nat.reduceEqDiff, Int.reduceToNat, Int.reduceLE, Int.reduceLT, Nat.reduceAdd, Nat.reduceLeDiff, intBin, strBin, unD, extractD, lit1, lit2, lit3, keptD, boxR, D.one, D.pub1, D.cells, splice, cutOwn]
    intros
    refine ⟨_, ares_c1 (r := σ.next) tz39 (by simp [upd_apply]) (Heap.new_same _ _) (pack39 _ _ _ _ _ tz39), ?_⟩
    exact bad _ (hle _) (hbad hf)
  have kn : l[l.length - 1] = 64 := Decidable.not_not.1 kn
  rw [decide_eq_true kn] at nn hf
  have hft : frame l = true := hf
  have hg1 : ∀ o, ((σ.new (.cells 39 [.int .u8 0, .str ⟨#[]⟩, .str ⟨#[]⟩, .bool false])).new o).get (σ.next + 1) = some o := fun o => Heap.new_same (σ := σ.new (.cells 39 [.int .u8 0, .str ⟨#[]⟩, .str ⟨#[]⟩, .bool false])) o
  have hs1 : ∀ o o', ((σ.new (.cells 39 [.int .u8 0, .str ⟨#[]⟩, .str ⟨#[]⟩, .bool false])).new o).set (σ.next + 1) o' = (σ.new (.cells 39 [.int .u8 0, .str ⟨#[]⟩, .str ⟨#[]⟩, .bool false])).new o' := fun o o' => Heap.new_set (σ := σ.new (.cells 39 [.int .u8 0, .str ⟨#[]⟩, .str ⟨#[]⟩, .bool false])) o o'
  have hg0 : ∀ o, ((σ.new (.cells 39 [.int .u8 0, .str ⟨#[]⟩, .str ⟨#[]⟩, .bool false])).new o).get σ.next = some (.cells 39 [.int .u8 0, .str ⟨#[]⟩, .str ⟨#[]⟩, .bool false]) := fun o => by
    rw [Heap.new_ne (h := by rw [Heap.next_new]; omega)]
    exact Heap.new_same _ _
  have hle2 : ∀ o o', HLe σ (((σ.new (.cells 39 [.int .u8 0, .str ⟨#[]⟩, .str ⟨#[]⟩, .bool false])).new o).set σ.next o') := fun o o' => ((hle _).new' o hcl).set_out _ hcl (Nat.le_refl _)
  have j3 : (3 : Int) ≤ ((l.length - 1 : Nat) : Int) := by omega
  have j4 : ((l.length - 1 : Nat) : Int) ≤ l.length := by omega
  have hmid := mid_ext (l := l)
  simp -dsimp only [hsz, c5, i0, i1, i2, i3, n0, n2, nn, hw1, b1, ab39_0, gate, decide_false, Bool.not_false, Bool.not_true, show (true == false) = false from rfl, show (false == false) = true from rfl, ↓preB, postB, genB, ↓reduceIte, Nat.reduceEqDiff, Int.reduceToNat, Int.reduceLE, Int.reduceLT, Nat.reduceAdd, Nat.reduceLeDiff, intBin, strBin, unD, extractD, lit1, lit2, lit3, keptD, boxR, D.one, D.pub1, D.cells, splice, cutOwn]
  intros
  refine ⟨⟨j3, j4⟩, ?_⟩
  rw [hmid]
  have hml := midL_len l
  refine Fn.use (Split1_c (toB (midL l)) 46 (by rw [toB_size]; omega)) ?_
  rw [cutB, toB_list]
  have hrf := isMk_rf hft
  rw [g1] at hrf
  have hC := cutL_head 46 (midL l)
  obtain ⟨hp1, hp2⟩ := cutL_pieces 46 _ (midL l) (Nat.le_refl _)
  unfold bodyRf at hrf
  have hmv : isMk l = true → rfV l = rfD ((l[1]).toNat : Int) (toB (headL 46 (midL l))) (toB (tailL 46 (midL l))) true := fun h => by
    unfold rfV
    rw [if_pos h, g1]
  generalize cutL 46 (midL l) = C at *
  match C, hC, hrf, hp1, hp2 with
  | [], hC, hrf, hp1, hp2 => cases hC
  | [f], hC, hrf, hp1, hp2 =>
    have e2 : (((1 : Nat) : Int) == 2) = false := rfl
    have e3 : ¬ (2 : Int) < ((1 : Nat) : Int) := by decide
    have hfl := hp2 f (by simp)
    have hrf : isMk l = (partL f && okK l[1] []) := hrf
    obtain ⟨hF, hT⟩ : headL 46 (midL l) = f ∧ tailL 46 (midL l) = [] := by
      by_cases hm : (46 : UInt8) ∈ midL l
      · rw [if_pos hm] at hC
        exact absurd (List.cons.inj hC).2.symm (cutL_ne _ _)
      · rw [(headL_not 46 hm).2]
        exact ⟨(List.cons.inj hC).1.symm, rfl⟩
    simp -dsimp only [encSS, List.map_cons, List.map_nil, List.length_cons, List.length_nil, hsz, i1, b1, ↓preB, postB, genB, ↓reduceIte, Nat.reduceEqDiff, Int.reduceToNat, Int.reduceLE, Int.reduceLT, Nat.reduceAdd, Nat.reduceLeDiff, intBin, strBin, unD, extractD, lit1, lit2, lit3, keptD, boxR, D.one, D.pub1, D.cells, splice, cutOwn]
    refine draw_a 7 6 ((σ.new (.cells 39 [.int .u8 0, .str ⟨#[]⟩, .str ⟨#[]⟩, .bool false])).new (.cells 39 [.int .u8 0, .str ⟨#[]⟩, .str ⟨#[]⟩, .bool false])) (by decide) (by decide) (by decide) ?_
    simp -dsimp only [hsz, i1, b1, ab39_3, hg1, hs1, gate, e2, e3, decide_false, show (true == false) = false from rfl, show (false == false) = true from rfl, show (true == true) = true from rfl, show (false == true) = false from rfl, List.length_cons, List.length_nil, List.take_succ_cons, List.take_zero, List.drop_succ_cons, List.drop_zero, List.drop_nil, List.cons_append, List.nil_append, List.getElem?_cons_zero, List.getElem?_cons_succ, actOps_nil, actOps_act, actOps_hf, actOps_two, actOp_alloc, actOp_mapEntry, actOp_makeMap, actOp_box, kAct_some, hfB, ne_eq, eq_self, ↓preB, postB, genB, ↓reduceIte, Nat.reduceEqDiff, Int.reduceToNat, Int.reduceLE, Int.reduceLT, Nat.reduceAdd, Nat.reduceLeDiff, intBin, strBin, unD, extractD, lit1, lit2, lit3, keptD, boxR, D.one, D.pub1, D.cells, splice, cutOwn]
    refine ⟨by decide, fun _ _ => ?_⟩
    refine Fn.use (isShort_c f (by omega)) ?_
    cases hpf : partL f
    · have hres : isMk l = false := by rw [hrf, hpf]; rfl
      simp -dsimp only [hpf, e2, hg0, ab39_0, gate, Bool.not_false, show (true == false) = false from rfl, show (false == false) = true from rfl, show (true == true) = true from rfl, show (false == true) = false from rfl, List.length_cons, List.length_nil, List.take_succ_cons, List.take_zero, List.drop_succ_cons, List.drop_zero, List.drop_nil, List.cons_append, List.nil_append, List.getElem?_cons_zero, List.getElem?_cons_succ, ↓preB, postB, genB, ↓reduceIte, Nat.reduceEqDiff, Int.reduceToNat, Int.reduceLE, Int.reduceLT, Nat.reduceAdd, Nat.reduceLeDiff, intBin, strBin, unD, extractD, lit1, lit2, lit3, keptD, boxR, D.one, D.pub1, D.cells, splice, cutOwn]
      refine ⟨_, ares_c1 (r := σ.next) tz39 (by simp [upd_apply]) (Heap.set_same _ _ _) (pack39 _ _ _ _ _ tz39), ?_⟩
      exact bad _ (hle2 _ _) hres
    have hvb : ((⟨#[]⟩ : ByteArray) == (⟨#[]⟩ : ByteArray)) = true := rfl
    have hok : isMk l = okI ((l[1]).toNat : Int) ⟨#[]⟩ := by
      rw [hrf, hpf, show (⟨#[]⟩ : ByteArray) = toB [] from rfl, okI_okK]; rfl
    simp -dsimp only [hpf, e2, hg1, hg0, gate, decide_false, Bool.not_true, show (true == false) = false from rfl, show (false == false) = true from rfl, show (true == true) = true from rfl, show (false == true) = false from rfl, List.length_cons, List.length_nil, List.take_succ_cons, List.take_zero, List.drop_succ_cons, List.drop_zero, List.drop_nil, List.cons_append, List.nil_append, List.getElem?_cons_zero, List.getElem?_cons_succ, ↓preB, postB, genB, ↓reduceIte, Nat.reduceEqDiff, Int.reduceToNat, Int.reduceLE, Int.reduceLT, Nat.reduceAdd, Nat.reduceLeDiff, intBin, strBin, unD, extractD, lit1, lit2, lit3, keptD, boxR, D.one, D.pub1, D.cells, splice, cutOwn]
    try intro _
    generalize ((l[1]).toNat : Int) = k at *
    by_cases k80 : k = 80
    · subst k80
      have hres : isMk l = false := by rw [hok]; unfold okI; simp [hvb]
      simp -dsimp only [show ((80 : Int) == 80) = true from rfl, show ((80 : Int) == 78) = false from rfl, show ((80 : Int) == 85) = false from rfl, show ((80 : Int) == 67) = false from rfl, show ((80 : Int) == 82) = false from rfl, show ((80 : Int) == 68) = false from rfl, hvb, hg1, hs1, hg0, ab39_0, Bool.not_true, Bool.not_false, show (true == false) = false from rfl, show (false == false) = true from rfl, show (true == true) = true from rfl, show (false == true) = false from rfl, List.length_cons, List.length_nil, List.take_succ_cons, List.take_zero, List.drop_succ_cons, List.drop_zero, List.drop_nil, List.cons_append, List.nil_append, List.getElem?_cons_zero, List.getElem?_cons_succ, ↓preB, postB, genB, ↓reduceIte, Nat.reduceEqDiff, Int.reduceToNat, Int.reduceLE, Int.reduceLT, Nat.reduceAdd, Nat.reduceLeDiff, intBin, strBin, unD, extractD, lit1, lit2, lit3, keptD, boxR, D.one, D.pub1, D.cells, splice, cutOwn]
      refine ⟨_, ares_c1 (r := σ.next) tz39 (by simp [upd_apply]) (Heap.set_same _ _ _) (pack39 _ _ _ _ _ tz39), ?_⟩
      exact bad _ (hle2 _ _) hres
    by_cases k78 : k = 78
    · subst k78
      have hres : isMk l = false := by rw [hok]; unfold okI; simp [hvb]
      simp -dsimp only [show ((78 : Int) == 80) = false from rfl, show ((78 : Int) == 78) = true from rfl, show ((78 : Int) == 85) = false from rfl, show ((78 : Int) == 67) = false from rfl, show ((78 : Int) == 82) = false from rfl, show ((78 : Int) == 68) = false from rfl, hvb, hg1, hs1, hg0, ab39_0, Bool.not_true, Bool.not_false, show (true == false) = false from rfl, show (false == false) = true from rfl, show (true == true) = true from rfl, show (false == true) = false from rfl, List.length_cons, List.length_nil, List.take_succ_cons, List.take_zero, List.drop_succ_cons, List.drop_zero, List.drop_nil, List.cons_append, List.nil_append, List.getElem?_cons_zero, List.getElem?_cons_succ, ↓preB, postB, genB, ↓reduceIte, Nat.reduceEqDiff, Int.reduceToNat, Int.reduceLE, Int.reduceLT, Nat.reduceAdd, Nat.reduceLeDiff, intBin, strBin, unD, extractD, lit1, lit2, lit3, keptD, boxR, D.one, D.pub1, D.cells, splice, cutOwn]
      refine ⟨_, ares_c1 (r := σ.next) tz39 (by simp [upd_apply]) (Heap.set_same _ _ _) (pack39 _ _ _ _ _ tz39), ?_⟩
      exact bad _ (hle2 _ _) hres
    by_cases k85 : k = 85
    · subst k85
      have hres : isMk l = false := by rw [hok]; unfold okI; simp [hvb]
      simp -dsimp only [show ((85 : Int) == 80) = false from rfl, show ((85 : Int) == 78) = false from rfl, show ((85 : Int) == 85) = true from rfl, show ((85 : Int) == 67) = false from rfl, show ((85 : Int) == 82) = false from rfl, show ((85 : Int) == 68) = false from rfl, hvb, hg1, hs1, hg0, ab39_0, Bool.not_true, Bool.not_false, show (true == false) = false from rfl, show (false == false) = true from rfl, show (true == true) = true from rfl, show (false == true) = false from rfl, List.length_cons, List.length_nil, List.take_succ_cons, List.take_zero, List.drop_succ_cons, List.drop_zero, List.drop_nil, List.cons_append, List.nil_append, List.getElem?_cons_zero, List.getElem?_cons_succ, ↓preB, postB, genB, ↓reduceIte, Nat.reduceEqDiff, Int.reduceToNat, Int.reduceLE, Int.reduceLT, Nat.reduceAdd, Nat.reduceLeDiff, intBin, strBin, unD, extractD, lit1, lit2, lit3, keptD, boxR, D.one, D.pub1, D.cells, splice, cutOwn]
      refine ⟨_, ares_c1 (r := σ.next) tz39 (by simp [upd_apply]) (Heap.set_same _ _ _) (pack39 _ _ _ _ _ tz39), ?_⟩
      exact bad _ (hle2 _ _) hres
    by_cases k67 : k = 67
    · subst k67
      have hres : isMk l = true := by rw [hok]; unfold okI; simp [hvb]
      simp -dsimp only [show ((67 : Int) == 80) = false from rfl, show ((67 : Int) == 78) = false from rfl, show ((67 : Int) == 85) = false from rfl, show ((67 : Int) == 67) = true from rfl, show ((67 : Int) == 82) = false from rfl, show ((67 : Int) == 68) = false from rfl, hvb, hg1, hs1, hg0, ab39_0, Bool.not_true, Bool.not_false, show (true == false) = false from rfl, show (false == false) = true from rfl, show (true == true) = true from rfl, show (false == true) = false from rfl, List.length_cons, List.length_nil, List.take_succ_cons, List.take_zero, List.drop_succ_cons, List.drop_zero, List.drop_nil, List.cons_append, List.nil_append, List.getElem?_cons_zero, List.getElem?_cons_succ, ↓preB, postB, genB, ↓reduceIte, Nat.reduceEqDiff, Int.reduceToNat, Int.reduceLE, Int.reduceLT, Nat.reduceAdd, Nat.reduceLeDiff, intBin, strBin, unD, extractD, lit1, lit2, lit3, keptD, boxR, D.one, D.pub1, D.cells, splice, cutOwn]
      refine ⟨_, ares_c1 (r := σ.next) tz39 (by simp [upd_apply]) (Heap.set_same _ _ _) (pack39 _ _ _ _ _ tz39), ?_⟩
      exact Ret.isH (hle2 _ _) hcl (by rw [hmv hres]; first | done | rfl | (rw [hF, hT]; first | done | rfl)) (hbel _)
    by_cases k82 : k = 82
    · subst k82
      have hres : isMk l = true := by rw [hok]; rfl
      simp -dsimp only [show ((82 : Int) == 80) = false from rfl, show ((82 : Int) == 78) = false from rfl, show ((82 : Int) == 85) = false from rfl, show ((82 : Int) == 67) = false from rfl, show ((82 : Int) == 82) = true from rfl, show ((82 : Int) == 68) = false from rfl, hg1, hs1, hg0, ab39_0, show (true == false) = false from rfl, show (false == false) = true from rfl, show (true == true) = true from rfl, show (false == true) = false from rfl, List.length_cons, List.length_nil, List.take_succ_cons, List.take_zero, List.drop_succ_cons, List.drop_zero, List.drop_nil, List.cons_append, List.nil_append, List.getElem?_cons_zero, List.getElem?_cons_succ, ↓preB, postB, genB, ↓reduceIte, Nat.reduceEqDiff, Int.reduceToNat, Int.reduceLE, Int.reduceLT, Nat.reduceAdd, Nat.reduceLeDiff, intBin, strBin, unD, extractD, lit1, lit2, lit3, keptD, boxR, D.one, D.pub1, D.cells, splice, cutOwn]
      refine ⟨_, ares_c1 (r := σ.next) tz39 (by simp [upd_apply]) (Heap.set_same _ _ _) (pack39 _ _ _ _ _ tz39), ?_⟩
      exact Ret.isH (hle2 _ _) hcl (by rw [hmv hres]; first | done | rfl | (rw [hF, hT]; first | done | rfl)) (hbel _)
    by_cases k68 : k = 68
    · subst k68
      have hres : isMk l = true := by rw [hok]; rfl
      simp -dsimp only [show ((68 : Int) == 80) = false from rfl, show ((68 : Int) == 78) = false from rfl, show ((68 : Int) == 85) = false from rfl, show ((68 : Int) == 67) = false from rfl, show ((68 : Int) == 82) = false from rfl, show ((68 : Int) == 68) = true from rfl, hg1, hs1, hg0, ab39_0, show (true == false) = false from rfl, show (false == false) = true from rfl, show (true == true) = true from rfl, show (false == true) = false from rfl, List.length_cons, List.length_nil, List.take_succ_cons, List.take_zero, List.drop_succ_cons, List.drop_zero, List.drop_nil, List.cons_append, List.nil_append, List.getElem?_cons_zero, List.getElem?_cons_succ, ↓preB, postB, genB, ↓reduceIte, Nat.reduceEqDiff, Int.reduceToNat, Int.reduceLE, Int.reduceLT, Nat.reduceAdd, Nat.reduceLeDiff, intBin, strBin, unD, extractD, lit1, lit2, lit3, keptD, boxR, D.one, D.pub1, D.cells, splice, cutOwn]
      refine ⟨_, ares_c1 (r := σ.next) tz39 (by simp [upd_apply]) (Heap.set_same _ _ _) (pack39 _ _ _ _ _ tz39), ?_⟩
      exact Ret.isH (hle2 _ _) hcl (by rw [hmv hres]; first | done | rfl | (rw [hF, hT]; first | done | rfl)) (hbel _)
    have hres : isMk l = false := by rw [hok]; unfold okI; simp [k80, k78, k85, k67, k82, k68]
    have e80 : (k == 80) = false := by simpa using k80
    have e78 : (k == 78) = false := by simpa using k78
    have e85 : (k == 85) = false := by simpa using k85
    have e67 : (k == 67) = false := by simpa using k67
    have e82 : (k == 82) = false := by simpa using k82
    have e68 : (k == 68) = false := by simpa using k68
    simp -dsimp only [e80, e78, e85, e67, e82, e68, hg1, hs1, hg0, ab39_0, Bool.not_true, Bool.not_false, show (true == false) = false from rfl, show (false == false) = true from rfl, show (true == true) = true from rfl, show (false == true) = false from rfl, List.length_cons, List.length_nil, List.take_succ_cons, List.take_zero, List.drop_succ_cons, List.drop_zero, List.drop_nil, List.cons_append, List.nil_append, List.getElem?_cons_zero, List.getElem?_cons_succ, ↓preB, postB, genB, ↓reduceIte, Nat.reduceEqDiff, Int.reduceToNat, Int.reduceLE, Int.reduceLT, Nat.reduceAdd, Nat.reduceLeDiff, intBin, strBin, unD, extractD, lit1, lit2, lit3, keptD, boxR, D.one, D.pub1, D.cells, splice, cutOwn]
    refine ⟨_, ares_c1 (r := σ.next) tz39 (by simp [upd_apply]) (Heap.set_same _ _ _) (pack39 _ _ _ _ _ tz39), ?_⟩
    exact bad _ (hle2 _ _) hres
  | [f, v], hC, hrf, hp1, hp2 =>
    have e2 : (((2 : Nat) : Int) == 2) = true := rfl
    have e3 : ¬ (2 : Int) < ((2 : Nat) : Int) := by decide
    have hfl := hp2 f (by simp)
    have hvl := hp2 v (by simp)
    have hrf : isMk l = (partL f && (partL v && okK l[1] v)) := hrf
    obtain ⟨hF, hT⟩ : headL 46 (midL l) = f ∧ tailL 46 (midL l) = v := by
      by_cases hm : (46 : UInt8) ∈ midL l
      · rw [if_pos hm] at hC
        refine ⟨(List.cons.inj hC).1.symm, ?_⟩
        have h2 := (List.cons.inj hC).2
        rw [cutL_head] at h2
        by_cases hm2 : (46 : UInt8) ∈ tailL 46 (midL l)
        · rw [if_pos hm2] at h2
          exact absurd (List.cons.inj h2).2.symm (cutL_ne _ _)
        · rw [(headL_not 46 hm2).1] at h2
          exact (List.cons.inj h2).1.symm
      · rw [if_neg hm] at hC
        cases (List.cons.inj hC).2
    simp -dsimp only [encSS, List.map_cons, List.map_nil, List.length_cons, List.length_nil, hsz, i1, b1, ↓preB, postB, genB, ↓reduceIte, Nat.reduceEqDiff, Int.reduceToNat, Int.reduceLE, Int.reduceLT, Nat.reduceAdd, Nat.reduceLeDiff, intBin, strBin, unD, extractD, lit1, lit2, lit3, keptD, boxR, D.one, D.pub1, D.cells, splice, cutOwn]
    refine draw_a 7 6 ((σ.new (.cells 39 [.int .u8 0, .str ⟨#[]⟩, .str ⟨#[]⟩, .bool false])).new (.cells 39 [.int .u8 0, .str ⟨#[]⟩, .str ⟨#[]⟩, .bool false])) (by decide) (by decide) (by decide) ?_
    simp -dsimp only [hsz, i1, b1, ab39_3, hg1, hs1, gate, e2, e3, decide_false, show (true == false) = false from rfl, show (false == false) = true from rfl, show (true == true) = true from rfl, show (false == true) = false from rfl, List.length_cons, List.length_nil, List.take_succ_cons, List.take_zero, List.drop_succ_cons, List.drop_zero, List.drop_nil, List.cons_append, List.nil_append, List.getElem?_cons_zero, List.getElem?_cons_succ, actOps_nil, actOps_act, actOps_hf, actOps_two, actOp_alloc, actOp_mapEntry, actOp_makeMap, actOp_box, kAct_some, hfB, ne_eq, eq_self, ↓preB, postB, genB, ↓reduceIte, Nat.reduceEqDiff, Int.reduceToNat, Int.reduceLE, Int.reduceLT, Nat.reduceAdd, Nat.reduceLeDiff, intBin, strBin, unD, extractD, lit1, lit2, lit3, keptD, boxR, D.one, D.pub1, D.cells, splice, cutOwn]
    refine ⟨by decide, fun _ => ⟨by decide, fun _ => ?_⟩⟩
    refine Fn.use (isShort_c f (by omega)) ?_
    cases hpf : partL f
    · have hres : isMk l = false := by rw [hrf, hpf]; rfl
      simp -dsimp only [hpf, e2, hg0, ab39_0, gate, Bool.not_false, show (true == false) = false from rfl, show (false == false) = true from rfl, show (true == true) = true from rfl, show (false == true) = false from rfl, List.length_cons, List.length_nil, List.take_succ_cons, List.take_zero, List.drop_succ_cons, List.drop_zero, List.drop_nil, List.cons_append, List.nil_append, List.getElem?_cons_zero, List.getElem?_cons_succ, ↓preB, postB, genB, ↓reduceIte, Nat.reduceEqDiff, Int.reduceToNat, Int.reduceLE, Int.reduceLT, Nat.reduceAdd, Nat.reduceLeDiff, intBin, strBin, unD, extractD, lit1, lit2, lit3, keptD, boxR, D.one, D.pub1, D.cells, splice, cutOwn]
      refine ⟨_, ares_c1 (r := σ.next) tz39 (by simp [upd_apply]) (Heap.set_same _ _ _) (pack39 _ _ _ _ _ tz39), ?_⟩
      exact bad _ (hle2 _ _) hres
    simp -dsimp only [hpf, e2, hg1, hg0, gate, decide_false, Bool.not_true, show (true == false) = false from rfl, show (false == false) = true from rfl, show (true == true) = true from rfl, show (false == true) = false from rfl, List.length_cons, List.length_nil, List.take_succ_cons, List.take_zero, List.drop_succ_cons, List.drop_zero, List.drop_nil, List.cons_append, List.nil_append, List.getElem?_cons_zero, List.getElem?_cons_succ, ↓preB, postB, genB, ↓reduceIte, Nat.reduceEqDiff, Int.reduceToNat, Int.reduceLE, Int.reduceLT, Nat.reduceAdd, Nat.reduceLeDiff, intBin, strBin, unD, extractD, lit1, lit2, lit3, keptD, boxR, D.one, D.pub1, D.cells, splice, cutOwn]
    try intro _
    refine Fn.use (isShort_c v (by omega)) ?_
    cases hpv : partL v
    · have hres : isMk l = false := by rw [hrf, hpf, hpv]; rfl
      simp -dsimp only [hpv, e2, hg0, ab39_0, gate, Bool.not_false, show (true == false) = false from rfl, show (false == false) = true from rfl, show (true == true) = true from rfl, show (false == true) = false from rfl, List.length_cons, List.length_nil, List.take_succ_cons, List.take_zero, List.drop_succ_cons, List.drop_zero, List.drop_nil, List.cons_append, List.nil_append, List.getElem?_cons_zero, List.getElem?_cons_succ, ↓preB, postB, genB, ↓reduceIte, Nat.reduceEqDiff, Int.reduceToNat, Int.reduceLE, Int.reduceLT, Nat.reduceAdd, Nat.reduceLeDiff, intBin, strBin, unD, extractD, lit1, lit2, lit3, keptD, boxR, D.one, D.pub1, D.cells, splice, cutOwn]
      refine ⟨_, ares_c1 (r := σ.next) tz39 (by simp [upd_apply]) (Heap.set_same _ _ _) (pack39 _ _ _ _ _ tz39), ?_⟩
      exact bad _ (hle2 _ _) hres
    have hok : isMk l = okI ((l[1]).toNat : Int) (toB v) := by
      rw [hrf, hpf, hpv, okI_okK]; rfl
    simp -dsimp only [hpv, e2, hg1, hg0, gate, decide_false, Bool.not_true, show (true == false) = false from rfl, show (false == false) = true from rfl, show (true == true) = true from rfl, show (false == true) = false from rfl, List.length_cons, List.length_nil, List.take_succ_cons, List.take_zero, List.drop_succ_cons, List.drop_zero, List.drop_nil, List.cons_append, List.nil_append, List.getElem?_cons_zero, List.getElem?_cons_succ, ↓preB, postB, genB, ↓reduceIte, Nat.reduceEqDiff, Int.reduceToNat, Int.reduceLE, Int.reduceLT, Nat.reduceAdd, Nat.reduceLeDiff, intBin, strBin, unD, extractD, lit1, lit2, lit3, keptD, boxR, D.one, D.pub1, D.cells, splice, cutOwn]
    try intro _
    generalize ((l[1]).toNat : Int) = k at *
    by_cases k80 : k = 80
    · subst k80
      cases hvb : (toB v == (⟨#[]⟩ : ByteArray))
      · have hres : isMk l = true := by rw [hok]; unfold okI; simp [hvb]
        simp -dsimp only [show ((80 : Int) == 80) = true from rfl, show ((80 : Int) == 78) = false from rfl, show ((80 : Int) == 85) = false from rfl, show ((80 : Int) == 67) = false from rfl, show ((80 : Int) == 82) = false from rfl, show ((80 : Int) == 68) = false from rfl, hvb, hg1, hs1, hg0, ab39_0, Bool.not_true, Bool.not_false, show (true == false) = false from rfl, show (false == false) = true from rfl, show (true == true) = true from rfl, show (false == true) = false from rfl, List.length_cons, List.length_nil, List.take_succ_cons, List.take_zero, List.drop_succ_cons, List.drop_zero, List.drop_nil, List.cons_append, List.nil_append, List.getElem?_cons_zero, List.getElem?_cons_succ, ↓preB, postB, genB, ↓reduceIte, Nat.reduceEqDiff, Int.reduceToNat, Int.reduceLE, Int.reduceLT, Nat.reduceAdd, Nat.reduceLeDiff, intBin, strBin, unD, extractD, lit1, lit2, lit3, keptD, boxR, D.one, D.pub1, D.cells, splice, cutOwn]
        refine ⟨_, ares_c1 (r := σ.next) tz39 (by simp [upd_apply]) (Heap.set_same _ _ _) (pack39 _ _ _ _ _ tz39), ?_⟩
        exact Ret.isH (hle2 _ _) hcl (by rw [hmv hres]; first | done | rfl | (rw [hF, hT]; first | done | rfl)) (hbel _)
      · have hres : isMk l = false := by rw [hok]; unfold okI; simp [hvb]
        simp -dsimp only [show ((80 : Int) == 80) = true from rfl, show ((80 : Int) == 78) = false from rfl, show ((80 : Int) == 85) = false from rfl, show ((80 : Int) == 67) = false from rfl, show ((80 : Int) == 82) = false from rfl, show ((80 : Int) == 68) = false from rfl, hvb, hg1, hs1, hg0, ab39_0, Bool.not_true, Bool.not_false, show (true == false) = false from rfl, show (false == false) = true from rfl, show (true == true) = true from rfl, show (false == true) = false from rfl, List.length_cons, List.length_nil, List.take_succ_cons, List.take_zero, List.drop_succ_cons, List.drop_zero, List.drop_nil, List.cons_append, List.nil_append, List.getElem?_cons_zero, List.getElem?_cons_succ, ↓preB, postB, genB, ↓reduceIte, Nat.reduceEqDiff, Int.reduceToNat, Int.reduceLE, Int.reduceLT, Nat.reduceAdd, Nat.reduceLeDiff, intBin, strBin, unD, extractD, lit1, lit2, lit3, keptD, boxR, D.one, D.pub1, D.cells, splice, cutOwn]
        refine ⟨_, ares_c1 (r := σ.next) tz39 (by simp [upd_apply]) (Heap.set_same _ _ _) (pack39 _ _ _ _ _ tz39), ?_⟩
        exact bad _ (hle2 _ _) hres
    by_cases k78 : k = 78
    · subst k78
      cases hvb : (toB v == (⟨#[]⟩ : ByteArray))
      · have hres : isMk l = true := by rw [hok]; unfold okI; simp [hvb]
        simp -dsimp only [show ((78 : Int) == 80) = false from rfl, show ((78 : Int) == 78) = true from rfl, show ((78 : Int) == 85) = false from rfl, show ((78 : Int) == 67) = false from rfl, show ((78 : Int) == 82) = false from rfl, show ((78 : Int) == 68) = false from rfl, hvb, hg1, hs1, hg0, ab39_0, Bool.not_true, Bool.not_false, show (true == false) = false from rfl, show (false == false) = true from rfl, show (true == true) = true from rfl, show (false == true) = false from rfl, List.length_cons, List.length_nil, List.take_succ_cons, List.take_zero, List.drop_succ_cons, List.drop_zero, List.drop_nil, List.cons_append, List.nil_append, List.getElem?_cons_zero, List.getElem?_cons_succ, ↓preB, postB, genB, ↓reduceIte, Nat.reduceEqDiff, Int.reduceToNat, Int.reduceLE, Int.reduceLT, Nat.reduceAdd, Nat.reduceLeDiff, intBin, strBin, unD, extractD, lit1, lit2, lit3, keptD, boxR, D.one, D.pub1, D.cells, splice, cutOwn]
        refine ⟨_, ares_c1 (r := σ.next) tz39 (by simp [upd_apply]) (Heap.set_same _ _ _) (pack39 _ _ _ _ _ tz39), ?_⟩
        exact Ret.isH (hle2 _ _) hcl (by rw [hmv hres]; first | done | rfl | (rw [hF, hT]; first | done | rfl)) (hbel _)
      · have hres : isMk l = false := by rw [hok]; unfold okI; simp [hvb]
        simp -dsimp only [show ((78 : Int) == 80) = false from rfl, show ((78 : Int) == 78) = true from rfl, show ((78 : Int) == 85) = false from rfl, show ((78 : Int) == 67) = false from rfl, show ((78 : Int) == 82) = false from rfl, show ((78 : Int) == 68) = false from rfl, hvb, hg1, hs1, hg0, ab39_0, Bool.not_true, Bool.not_false, show (true == false) = false from rfl, show (false == false) = true from rfl, show (true == true) = true from rfl, show (false == true) = false from rfl, List.length_cons, List.length_nil, List.take_succ_cons, List.take_zero, List.drop_succ_cons, List.drop_zero, List.drop_nil, List.cons_append, List.nil_append, List.getElem?_cons_zero, List.getElem?_cons_succ, ↓preB, postB, genB, ↓reduceIte, Nat.reduceEqDiff, Int.reduceToNat, Int.reduceLE, Int.reduceLT, Nat.reduceAdd, Nat.reduceLeDiff, intBin, strBin, unD, extractD, lit1, lit2, lit3, keptD, boxR, D.one, D.pub1, D.cells, splice, cutOwn]
        refine ⟨_, ares_c1 (r := σ.next) tz39 (by simp [upd_apply]) (Heap.set_same _ _ _) (pack39 _ _ _ _ _ tz39), ?_⟩
        exact bad _ (hle2 _ _) hres
    by_cases k85 : k = 85
    · subst k85
      cases hvb : (toB v == (⟨#[]⟩ : ByteArray))
      · have hres : isMk l = true := by rw [hok]; unfold okI; simp [hvb]
        simp -dsimp only [show ((85 : Int) == 80) = false from rfl, show ((85 : Int) == 78) = false from rfl, show ((85 : Int) == 85) = true from rfl, show ((85 : Int) == 67) = false from rfl, show ((85 : Int) == 82) = false from rfl, show ((85 : Int) == 68) = false from rfl, hvb, hg1, hs1, hg0, ab39_0, Bool.not_true, Bool.not_false, show (true == false) = false from rfl, show (false == false) = true from rfl, show (true == true) = true from rfl, show (false == true) = false from rfl, List.length_cons, List.length_nil, List.take_succ_cons, List.take_zero, List.drop_succ_cons, List.drop_zero, List.drop_nil, List.cons_append, List.nil_append, List.getElem?_cons_zero, List.getElem?_cons_succ, ↓preB, postB, genB, ↓reduceIte, Nat.reduceEqDiff, Int.reduceToNat, Int.reduceLE, Int.reduceLT, Nat.reduceAdd, Nat.reduceLeDiff, intBin, strBin, unD, extractD, lit1, lit2, lit3, keptD, boxR, D.one, D.pub1, D.cells, splice, cutOwn]
        refine ⟨_, ares_c1 (r := σ.next) tz39 (by simp [upd_apply]) (Heap.set_same _ _ _) (pack39 _ _ _ _ _ tz39), ?_⟩
        exact Ret.isH (hle2 _ _) hcl (by rw [hmv hres]; first | done | rfl | (rw [hF, hT]; first | done | rfl)) (hbel _)
      · have hres : isMk l = false := by rw [hok]; unfold okI; simp [hvb]
        simp -dsimp only [show ((85 : Int) == 80) = false from rfl, show ((85 : Int) == 78) = false from rfl, show ((85 : Int) == 85) = true from rfl, show ((85 : Int) == 67) = false from rfl, show ((85 : Int) == 82) = false from rfl, show ((85 : Int) == 68) = false from rfl, hvb, hg1, hs1, hg0, ab39_0, Bool.not_true, Bool.not_false, show (true == false) = false from rfl, show (false == false) = true from rfl, show (true == true) = true from rfl, show (false == true) = false from rfl, List.length_cons, List.length_nil, List.take_succ_cons, List.take_zero, List.drop_succ_cons, List.drop_zero, List.drop_nil, List.cons_append, List.nil_append, List.getElem?_cons_zero, List.getElem?_cons_succ, ↓preB, postB, genB, ↓reduceIte, Nat.reduceEqDiff, Int.reduceToNat, Int.reduceLE, Int.reduceLT, Nat.reduceAdd, Nat.reduceLeDiff, intBin, strBin, unD, extractD, lit1, lit2, lit3, keptD, boxR, D.one, D.pub1, D.cells, splice, cutOwn]
        refine ⟨_, ares_c1 (r := σ.next) tz39 (by simp [upd_apply]) (Heap.set_same _ _ _) (pack39 _ _ _ _ _ tz39), ?_⟩
        exact bad _ (hle2 _ _) hres
    by_cases k67 : k = 67
    · subst k67
      cases hvb : (toB v == (⟨#[]⟩ : ByteArray))
      · have hres : isMk l = false := by rw [hok]; unfold okI; simp [hvb]
        simp -dsimp only [show ((67 : Int) == 80) = false from rfl, show ((67 : Int) == 78) = false from rfl, show ((67 : Int) == 85) = false from rfl, show ((67 : Int) == 67) = true from rfl, show ((67 : Int) == 82) = false from rfl, show ((67 : Int) == 68) = false from rfl, hvb, hg1, hs1, hg0, ab39_0, Bool.not_true, Bool.not_false, show (true == false) = false from rfl, show (false == false) = true from rfl, show (true == true) = true from rfl, show (false == true) = false from rfl, List.length_cons, List.length_nil, List.take_succ_cons, List.take_zero, List.drop_succ_cons, List.drop_zero, List.drop_nil, List.cons_append, List.nil_append, List.getElem?_cons_zero, List.getElem?_cons_succ, ↓preB, postB, genB, ↓reduceIte, Nat.reduceEqDiff, Int.reduceToNat, Int.reduceLE, Int.reduceLT, Nat.reduceAdd, Nat.reduceLeDiff, intBin, strBin, unD, extractD, lit1, lit2, lit3, keptD, boxR, D.one, D.pub1, D.cells, splice, cutOwn]
        refine ⟨_, ares_c1 (r := σ.next) tz39 (by simp [upd_apply]) (Heap.set_same _ _ _) (pack39 _ _ _ _ _ tz39), ?_⟩
        exact bad _ (hle2 _ _) hres
      · have hres : isMk l = true := by rw [hok]; unfold okI; simp [hvb]
        simp -dsimp only [show ((67 : Int) == 80) = false from rfl, show ((67 : Int) == 78) = false from rfl, show ((67 : Int) == 85) = false from rfl, show ((67 : Int) == 67) = true from rfl, show ((67 : Int) == 82) = false from rfl, show ((67 : Int) == 68) = false from rfl, hvb, hg1, hs1, hg0, ab39_0, Bool.not_true, Bool.not_false, show (true == false) = false from rfl, show (false == false) = true from rfl, show (true == true) = true from rfl, show (false == true) = false from rfl, List.length_cons, List.length_nil, List.take_succ_cons, List.take_zero, List.drop_succ_cons, List.drop_zero, List.drop_nil, List.cons_append, List.nil_append, List.getElem?_cons_zero, List.getElem?_cons_succ, ↓preB, postB, genB, ↓reduceIte, Nat.reduceEqDiff, Int.reduceToNat, Int.reduceLE, Int.reduceLT, Nat.reduceAdd, Nat.reduceLeDiff, intBin, strBin, unD, extractD, lit1, lit2, lit3, keptD, boxR, D.one, D.pub1, D.cells, splice, cutOwn]
        refine ⟨_, ares_c1 (r := σ.next) tz39 (by simp [upd_apply]) (Heap.set_same _ _ _) (pack39 _ _ _ _ _ tz39), ?_⟩
        exact Ret.isH (hle2 _ _) hcl (by rw [hmv hres]; first | done | rfl | (rw [hF, hT]; first | done | rfl)) (hbel _)
    by_cases k82 : k = 82
    · subst k82
      have hres : isMk l = true := by rw [hok]; rfl
      simp -dsimp only [show ((82 : Int) == 80) = false from rfl, show ((82 : Int) == 78) = false from rfl, show ((82 : Int) == 85) = false from rfl, show ((82 : Int) == 67) = false from rfl, show ((82 : Int) == 82) = true from rfl, show ((82 : Int) == 68) = false from rfl, hg1, hs1, hg0, ab39_0, show (true == false) = false from rfl, show (false == false) = true from rfl, show (true == true) = true from rfl, show (false == true) = false from rfl, List.length_cons, List.length_nil, List.take_succ_cons, List.take_zero, List.drop_succ_cons, List.drop_zero, List.drop_nil, List.cons_append, List.nil_append, List.getElem?_cons_zero, List.getElem?_cons_succ, ↓preB, postB, genB, ↓reduceIte, Nat.reduceEqDiff, Int.reduceToNat, Int.reduceLE, Int.reduceLT, Nat.reduceAdd, Nat.reduceLeDiff, intBin, strBin, unD, extractD, lit1, lit2, lit3, keptD, boxR, D.one, D.pub1, D.cells, splice, cutOwn]
      refine ⟨_, ares_c1 (r := σ.next) tz39 (by simp [upd_apply]) (Heap.set_same _ _ _) (pack39 _ _ _ _ _ tz39), ?_⟩
      exact Ret.isH (hle2 _ _) hcl (by rw [hmv hres]; first | done | rfl | (rw [hF, hT]; first | done | rfl)) (hbel _)
    by_cases k68 : k = 68
    · subst k68
      have hres : isMk l = true := by rw [hok]; rfl
      simp -dsimp only [show ((68 : Int) == 80) = false from rfl, show ((68 : Int) == 78) = false from rfl, show ((68 : Int) == 85) = false from rfl, show ((68 : Int) == 67) = false from rfl, show ((68 : Int) == 82) = false from rfl, show ((68 : Int) == 68) = true from rfl, hg1, hs1, hg0, ab39_0, show (true == false) = false from rfl, show (false == false) = true from rfl, show (true == true) = true from rfl, show (false == true) = false from rfl, List.length_cons, List.length_nil, List.take_succ_cons, List.take_zero, List.drop_succ_cons, List.drop_zero, List.drop_nil, List.cons_append, List.nil_append, List.getElem?_cons_zero, List.getElem?_cons_succ, ↓preB, postB, genB, ↓reduceIte, Nat.reduceEqDiff, Int.reduceToNat, Int.reduceLE, Int.reduceLT, Nat.reduceAdd, Nat.reduceLeDiff, intBin, strBin, unD, extractD, lit1, lit2, lit3, keptD, boxR, D.one, D.pub1, D.cells, splice, cutOwn]
      refine ⟨_, ares_c1 (r := σ.next) tz39 (by simp [upd_apply]) (Heap.set_same _ _ _) (pack39 _ _ _ _ _ tz39), ?_⟩
      exact Ret.isH (hle2 _ _) hcl (by rw [hmv hres]; first | done | rfl | (rw [hF, hT]; first | done | rfl)) (hbel _)
    have hres : isMk l = false := by rw [hok]; unfold okI; simp [k80, k78, k85, k67, k82, k68]
    have e80 : (k == 80) = false := by simpa using k80
    have e78 : (k == 78) = false := by simpa using k78
    have e85 : (k == 85) = false := by simpa using k85
    have e67 : (k == 67) = false := by simpa using k67
    have e82 : (k == 82) = false := by simpa using k82
    have e68 : (k == 68) = false := by simpa using k68
    simp -dsimp only [e80, e78, e85, e67, e82, e68, hg1, hs1, hg0, ab39_0, Bool.not_true, Bool.not_false, show (true == false) = false from rfl, show (false == false) = true from rfl, show (true == true) = true from rfl, show (false == true) = false from rfl, List.length_cons, List.length_nil, List.take_succ_cons, List.take_zero, List.drop_succ_cons, List.drop_zero, List.drop_nil, List.cons_append, List.nil_append, List.getElem?_cons_zero, List.getElem?_cons_succ, ↓preB, postB, genB, ↓reduceIte, Nat.reduceEqDiff, Int.reduceToNat, Int.reduceLE, Int.reduceLT, Nat.reduceAdd, Nat.reduceLeDiff, intBin, strBin, unD, extractD, lit1, lit2, lit3, keptD, boxR, D.one, D.pub1, D.cells, splice, cutOwn]
    refine ⟨_, ares_c1 (r := σ.next) tz39 (by simp [upd_apply]) (Heap.set_same _ _ _) (pack39 _ _ _ _ _ tz39), ?_⟩
    exact bad _ (hle2 _ _) hres
  | f :: v :: x :: r, hC, hrf, hp1, hp2 =>
    have e2 : (((r.length + 1 + 1 + 1 : Nat) : Int) == 2) = false := by simp only [beq_eq_false_iff_ne, ne_eq]; omega
    have e3 : (2 : Int) < ((r.length + 1 + 1 + 1 : Nat) : Int) := by omega
    have e4 : ∀ n : Nat, 0 < n + 1 := fun n => by omega
    simp -dsimp only [encSS, List.map_cons, List.map_nil, List.length_cons, List.length_nil, hsz, i1, b1, ↓preB, postB, genB, ↓reduceIte, Nat.reduceEqDiff, Int.reduceToNat, Int.reduceLE, Int.reduceLT, Nat.reduceAdd, Nat.reduceLeDiff, intBin, strBin, unD, extractD, lit1, lit2, lit3, keptD, boxR, D.one, D.pub1, D.cells, splice, cutOwn]
    refine draw_a 7 6 ((σ.new (.cells 39 [.int .u8 0, .str ⟨#[]⟩, .str ⟨#[]⟩, .bool false])).new (.cells 39 [.int .u8 0, .str ⟨#[]⟩, .str ⟨#[]⟩, .bool false])) (by decide) (by decide) (by decide) ?_
    simp -dsimp only [hsz, i1, b1, ab39_3, hg1, hs1, gate, e2, e3, decide_true, ab39_0, hg0, show (true == false) = false from rfl, show (false == false) = true from rfl, show (true == true) = true from rfl, show (false == true) = false from rfl, List.length_cons, List.length_nil, List.take_succ_cons, List.take_zero, List.drop_succ_cons, List.drop_zero, List.drop_nil, List.cons_append, List.nil_append, List.getElem?_cons_zero, List.getElem?_cons_succ, actOps_nil, actOps_act, actOps_hf, actOps_two, actOp_alloc, actOp_mapEntry, actOp_makeMap, actOp_box, kAct_some, hfB, ne_eq, eq_self, ↓preB, postB, genB, ↓reduceIte, Nat.reduceEqDiff, Int.reduceToNat, Int.reduceLE, Int.reduceLT, Nat.reduceAdd, Nat.reduceLeDiff, intBin, strBin, unD, extractD, lit1, lit2, lit3, keptD, boxR, D.one, D.pub1, D.cells, splice, cutOwn]
    refine ⟨⟨by omega, by omega⟩, fun _ _ => ?_⟩
    refine ⟨_, ares_c1 (r := σ.next) tz39 (by simp [upd_apply]) (Heap.set_same _ _ _) (pack39 _ _ _ _ _ tz39), ?_⟩
    exact bad _ (hle2 _ _) hrf
end Go.Proofs.YtpmjfoplpccblaaDoor.Vs
