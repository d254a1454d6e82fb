/- numbers of Ytapkbkniooleaaa -/
import Derived.Test.YtapkbkniooleaaaTkV
import Derived.Test.YtapkbkniooleaaaTkT0
namespace Go.Proofs.Ytapkbkniooleaaa.Vs
set_option linter.unusedVariables false
set_option linter.unusedSimpArgs false
set_option maxRecDepth 100000
theorem frontW_wf (l : List ByteArray) : ∀ (k f : Nat) (s : ByteArray), 1 ≤ s.size → 1 ≤ (frontW l k f s).2.2.size ∧ ∀ t ∈ (frontW l k f s).1, 1 ≤ t.text.size ∧ t.kind = 4
  | 0, f, s, h => ⟨h, fun t ht => by simp [frontW] at ht⟩
  | k + 1, f, s, h => by
    have hn := edgeW_lt preW l (lowB s)
    rw [lowB_size] at hn
    by_cases h0 : edgeW preW l (lowB s) = 0
    · rw [frontW_zero h0]; exact ⟨h, fun t ht => by simp at ht⟩
    · have ih := frontW_wf l k (f + edgeW preW l (lowB s)) (s.extract (edgeW preW l (lowB s)) s.size) (by rw [ByteArray.size_extract]; omega)
      simp only [frontW, if_neg h0]
      refine ⟨ih.1, fun t ht => ?_⟩
      rcases List.mem_cons.1 ht with rfl | ht
      · exact ⟨by simp only [ByteArray.size_extract]; omega, rfl⟩
      · exact ih.2 t ht
theorem backW_wf (l : List ByteArray) : ∀ (k f : Nat) (s : ByteArray), 1 ≤ s.size → 1 ≤ (backW l k f s).2.size ∧ ∀ t ∈ (backW l k f s).1, 1 ≤ t.text.size ∧ t.kind = 5
  | 0, f, s, h => ⟨h, fun t ht => by simp [backW] at ht⟩
  | k + 1, f, s, h => by
    have hn := edgeW_lt sufW l (lowB s)
    rw [lowB_size] at hn
    by_cases h0 : edgeW sufW l (lowB s) = 0
    · rw [backW_zero h0]; exact ⟨h, fun t ht => by simp at ht⟩
    · have ih := backW_wf l k f (s.extract 0 (s.size - edgeW sufW l (lowB s))) (by rw [ByteArray.size_extract]; omega)
      simp only [backW, if_neg h0]
      refine ⟨ih.1, fun t ht => ?_⟩
      rcases List.mem_cons.1 ht with rfl | ht
      · exact ⟨by simp only [ByteArray.size_extract]; omega, rfl⟩
      · exact ih.2 t ht
theorem cliticsW_wf (front back : Wd) (f : Nat) (s : ByteArray) (h : 1 ≤ s.size) : ∀ t ∈ cliticsW front back f s, WFT t := by
  have h1 := frontW_wf front s.size f s h
  have h2 := backW_wf back (frontW front s.size f s).2.2.size (frontW front s.size f s).2.1 (frontW front s.size f s).2.2 h1.1
  intro t ht
  unfold cliticsW at ht
  simp only [List.mem_append, List.mem_cons, List.mem_reverse] at ht
  rcases ht with ht | rfl | ht
  · exact ⟨(h1.2 t ht).1, fun hk => by rw [(h1.2 t ht).2] at hk; exact absurd hk (by decide)⟩
  · exact ⟨h2.1, fun hk => absurd hk (by simp)⟩
  · exact ⟨(h2.2 t ht).1, fun hk => by rw [(h2.2 t ht).2] at hk; exact absurd hk (by decide)⟩
theorem kindN_two {u n w : Nat} (h : kindN u n w = 2) : max (max (max u n) w) 1 = 1 := by
  unfold kindN at h
  split at h
  · cases h
  · split at h
    · cases h
    · split at h
      · cases h
      · omega
theorem cutW_wf (c : Cut) (s : ByteArray) : ∀ k a, a ≤ s.size → ∀ t ∈ cutW c s k a, WFT t
  | 0, a, _, t, ht => by simp [cutW] at ht
  | k + 1, a, ha, t, ht => by
    rw [cutW_step] at ht
    split at ht
    · rename_i h
      split at ht
      · exact cutW_wf c s k (a + 1) (by omega) t ht
      · have hp := bestW_pos c (sfx s a)
        have hl := bestW_le c (t := sfx s a) (by rw [sfx_size]; omega)
        rw [sfx_size] at hl
        rcases List.mem_append.1 ht with ht | ht
        · have hz : (s.extract a (a + (bestW c (sfx s a)).1)).size = (bestW c (sfx s a)).1 := by rw [ByteArray.size_extract]; omega
          unfold someW at ht
          split at ht
          · exact cliticsW_wf _ _ _ _ (by omega) t ht
          · have := List.mem_singleton.1 ht
            subst this
            refine ⟨by simp only []; omega, fun hk => ?_⟩
            simp only [] at hk ⊢
            rw [hz]
            rw [bestW_is] at hk ⊢
            exact kindN_two hk
        · exact cutW_wf c s k _ (by omega) t ht
    · simp at ht
theorem tokW_wf (c : Cut) (s : ByteArray) : (tokW c s).1.length ≤ 200 ∧ ∀ t ∈ (tokW c s).1, WFT t := by
  unfold tokW
  split
  · exact ⟨by simp, fun t ht => by simp at ht⟩
  · split
    · exact ⟨by simp, fun t ht => by simp at ht⟩
    · split
      · exact ⟨by simp, fun t ht => by simp at ht⟩
      · exact ⟨by simp only []; omega, cutW_wf c s _ 0 (Nat.zero_le _)⟩
/-- The numbers of tokens with which sentences begin, and what is wrong. -/
def sentW (c : Cut) (s : ByteArray) : List Nat × Int := if (tokW c s).2 ≠ 0 then ([], (tokW c s).2) else (beginsW (tokW c s).1, 0)
def encSt (r : List Nat × Int) : D := .tup [.sl .no r.1.length (encN r.1), .int .i64 r.2]
theorem bel_N {N : Nat} (l : List Nat) : ∀ d ∈ encN l, Bel N d := fun d hd => by
  obtain ⟨n, _, rfl⟩ := List.mem_map.1 hd
  exact .int _ _
theorem Sentences_c (c : Cut) (s : ByteArray) : Fn Zs 15 [encC c, .str s] (encSt (sentW c s)) := by
  refine fn_of (Z := Zs) ok15 fun σ hcl hbl => ?_
  simp -dsimp only [L15, encC, ↓preB, postB, genB, ↓reduceIte, Nat.reduceEqDiff, Int.reduceToNat, Int.reduceLE, Int.reduceLT, Nat.reduceAdd, Nat.reduceLeDiff, intBin, strBin, unD, extractD, lit1, lit2, lit3, keptD, boxR, D.one, D.pub1, D.cells, splice, cutOwn]
  obtain ⟨H, hH⟩ : ∃ H, H = σ.new (.cells 24 (cellsC c)) := ⟨_, rfl⟩
  have hle1 : HLe σ H := by rw [hH]; exact HLe.self_new _ hcl
  have hg1 : H.get σ.next = some (.cells 24 (cellsC c)) := by rw [hH]; exact Heap.new_same _ _
  rw [← hH]
  clear hH
  have hlen : (cellsC c).length = 4 := rfl
  have htk : (cellsC c).take 4 = cellsC c := rfl
  have hT := Tokens_c c s
  obtain ⟨w1, w2⟩ := tokW_wf c s
  have hB := begins_c (tokW c s).1 (by omega) w2
  unfold encC encTok at hT
  simp -dsimp only [hg1, hlen, htk, List.drop_zero, ↓preB, postB, genB, ↓reduceIte, Nat.reduceEqDiff, Int.reduceToNat, Int.reduceLE, Int.reduceLT, Nat.reduceAdd, Nat.reduceLeDiff, intBin, strBin, unD, extractD, lit1, lit2, lit3, keptD, boxR, D.one, D.pub1, D.cells, splice, cutOwn]
  refine Fn.use hT ?_
  unfold sentW
  by_cases e0 : (tokW c s).2 = 0
  · have c0 : ((tokW c s).2 != 0) = false := by rw [e0]; rfl
    rw [if_neg (by simpa using e0)]
    simp -dsimp only [c0, List.getElem?_cons_zero, List.getElem?_cons_succ, gate, decide_true, decide_false, Bool.not_true, Bool.not_false, bTT, bTF, bFT, bFF, ↓preB, postB, genB, ↓reduceIte, Nat.reduceEqDiff, Int.reduceToNat, Int.reduceLE, Int.reduceLT, Nat.reduceAdd, Nat.reduceLeDiff, intBin, strBin, unD, extractD, lit1, lit2, lit3, keptD, boxR, D.one, D.pub1, D.cells, splice, cutOwn]
    refine Fn.use hB ?_
    simp -dsimp only [↓preB, postB, genB, ↓reduceIte, Nat.reduceEqDiff, Int.reduceToNat, Int.reduceLE, Int.reduceLT, Nat.reduceAdd, Nat.reduceLeDiff, intBin, strBin, unD, extractD, lit1, lit2, lit3, keptD, boxR, D.one, D.pub1, D.cells, splice, cutOwn]
    exact Ret.isH hle1 hcl rfl (.tup _ fun d hd => by
      simp only [List.mem_cons, List.not_mem_nil, or_false] at hd
      rcases hd with rfl | rfl
      · exact .no (bel_N _)
      · exact .int _ _)
  · have c0 : ((tokW c s).2 != 0) = true := by simpa using e0
    rw [if_pos e0]
    simp -dsimp only [c0, List.getElem?_cons_zero, List.getElem?_cons_succ, gate, decide_true, decide_false, Bool.not_true, Bool.not_false, bTT, bTF, bFT, bFF, ↓preB, postB, genB, ↓reduceIte, Nat.reduceEqDiff, Int.reduceToNat, Int.reduceLE, Int.reduceLT, Nat.reduceAdd, Nat.reduceLeDiff, intBin, strBin, unD, extractD, lit1, lit2, lit3, keptD, boxR, D.one, D.pub1, D.cells, splice, cutOwn]
    exact Ret.less hle1 hcl (.tup _ _ rfl fun i h1 h2 => by
      match i, h1, h2 with
      | 0, _, _ => exact .sl .nil .no 0 [] _ (.inl rfl) rfl fun i h => absurd h (Nat.not_lt_zero _)
      | 1, _, _ => exact .refl _) (.tup _ fun d hd => by
      simp only [List.mem_cons, List.not_mem_nil, or_false] at hd
      rcases hd with rfl | rfl
      · exact .sl _ _ _ (fun r z he => by cases he) (fun d hd => absurd hd List.not_mem_nil)
      · exact .int _ _)
def kc : Cut := ⟨[], [⟨#[68, 114, 46]⟩], [], [⟨#[39, 115]⟩]⟩
def ks : ByteArray := ⟨#[68, 114, 46, 32, 76, 101, 101, 39, 115, 32, 99, 97, 116, 46, 32, 73, 116, 32, 114, 97, 110, 46]⟩
theorem ktok : (tokW kc ks).2 = 0 ∧ (tokW kc ks).1.length = 8 ∧ ((tokW kc ks).1.getD 2 tk0).text = ⟨#[39, 115]⟩ ∧ ((tokW kc ks).1.getD 2 tk0).kind = 5 ∧ (beginsW (tokW kc ks).1).length = 2 ∧ (beginsW (tokW kc ks).1).getD 1 0 = 5 := by
  decide +kernel
def kcD : List D := [.sl .nil 0 [], .sl .full 1 [.str ⟨#[68, 114, 46]⟩], .sl .nil 0 [], .sl .full 1 [.str ⟨#[39, 115]⟩]]
theorem ab24 : aBuilt Zs 24 [(1, .sl .full 1 [.str ⟨#[68, 114, 46]⟩]), (3, .sl .full 1 [.str ⟨#[39, 115]⟩])] = some kcD := by rfl
theorem kc_told (σ : Heap) : Told σ σ (.agg kcD) (encC kc) := .agg _ _ rfl fun i h1 h2 => by
  match i, h1, h2 with
  | 0, _, _ => exact .pub1 _ _ (.sl .nil 0 [])
  | 1, _, _ => exact .pub1 _ _ (.sl .full 1 [.str ⟨#[68, 114, 46]⟩])
  | 2, _, _ => exact .pub1 _ _ (.sl .nil 0 [])
  | 3, _, _ => exact .pub1 _ _ (.sl .full 1 [.str ⟨#[39, 115]⟩])
theorem kc_args {f : FuncId} {x : D} (h : Fn Zs f [encC kc, .str ks] x) : Fn Zs f [.agg kcD, .str ks] x := fun σ => (h σ).args rfl fun i h1 h2 => by
  match i, h1, h2 with
  | 0, _, _ => exact ⟨kc_told σ, fun _ => .agg _ (bel_C kc)⟩
  | 1, _, _ => exact ⟨.refl _, fun h => h⟩
theorem tk_get {l : List Tok} {k : Nat} (h : k < l.length) : l[k] = l.getD k tk0 := (getD_at h).symm
theorem encN_get {l : List Nat} {k : Nat} (h : k < l.length) : (encN l)[k]? = some (.int .i64 (l.getD k 0 : Nat)) := by
  rw [encN, List.getElem?_map, List.getElem?_eq_getElem h, List.getD_eq_getElem?_getD, List.getElem?_eq_getElem h]
  rfl
theorem known_c : Fn Zs 7 [] (.bool true) := by
  obtain ⟨k1, k2, k3, k4, k5, k6⟩ := ktok
  have hT := kc_args (Tokens_c kc ks)
  have hS := kc_args (Sentences_c kc ks)
  unfold encTok at hT
  unfold encSt sentW at hS
  rw [if_neg (by rw [k1]; decide)] at hS
  rw [k1] at hT
  simp only [] at hT hS
  have b2 : 2 < (tokW kc ks).1.length := by omega
  have b1 : 1 < (beginsW (tokW kc ks).1).length := by omega
  have e3 := encTks_3 b2
  have e2 := encTks_2 b2
  rw [tk_get b2, k3] at e3
  rw [tk_get b2, k4] at e2
  have e1 := encN_get b1
  rw [k6] at e1
  have n1 : (encTks (tokW kc ks).1).length = 32 := by rw [encTks_len, k2]
  have n2 : (encN (beginsW (tokW kc ks).1)).length = 2 := by rw [encN, List.length_map, k5]
  rw [k2] at hT
  rw [k5] at hS
  generalize encTks (tokW kc ks).1 = T at *
  generalize encN (beginsW (tokW kc ks).1) = B at *
  clear b1 b2 k1 k2 k3 k4 k5 k6
  refine fn_of (Z := Zs) ok7 fun σ hcl hbl => ?_
  simp -dsimp only [L7, ↓preB, postB, genB, ↓reduceIte, Nat.reduceEqDiff, Int.reduceToNat, Int.reduceLE, Int.reduceLT, Nat.reduceAdd, Nat.reduceLeDiff, intBin, strBin, unD, extractD, lit1, lit2, lit3, keptD, boxR, D.one, D.pub1, D.cells, splice, cutOwn]
  simp -dsimp only [ab24, Option.map_some, ↓preB, postB, genB, ↓reduceIte, Nat.reduceEqDiff, Int.reduceToNat, Int.reduceLE, Int.reduceLT, Nat.reduceAdd, Nat.reduceLeDiff, intBin, strBin, unD, extractD, lit1, lit2, lit3, keptD, boxR, D.one, D.pub1, D.cells, splice, cutOwn]
  have hlen : kcD.length = 4 := rfl
  have htk : kcD.take 4 = kcD := rfl
  have hap : kcD ++ List.drop kcD.length [D.sl .nil 0 [], D.sl .nil 0 [], D.sl .nil 0 [], D.sl .nil 0 []] = kcD := rfl
  have hap4 : kcD ++ List.drop 4 [D.sl .nil 0 [], D.sl .nil 0 [], D.sl .nil 0 [], D.sl .nil 0 []] = kcD := rfl
  obtain ⟨H, hH⟩ : ∃ H, H = σ.new (.cells 24 kcD) := ⟨_, rfl⟩
  have hle1 : HLe σ H := by rw [hH]; exact HLe.self_new _ hcl
  have hg1 : H.get σ.next = some (.cells 24 kcD) := by rw [hH]; exact Heap.new_same _ _
  simp only [hap, hap4, hlen, htk, ← hH]
  clear hH
  refine ⟨⟨trivial, Nat.le_refl _⟩, Nat.le_refl _, ?_⟩
  refine Fn.use hT ?_
  simp -dsimp only [hg1, hap, hap4, hlen, htk, List.drop_zero, List.getElem?_cons_zero, List.getElem?_cons_succ, Nat.le_refl, ↓preB, postB, genB, ↓reduceIte, Nat.reduceEqDiff, Int.reduceToNat, Int.reduceLE, Int.reduceLT, Nat.reduceAdd, Nat.reduceLeDiff, intBin, strBin, unD, extractD, lit1, lit2, lit3, keptD, boxR, D.one, D.pub1, D.cells, splice, cutOwn]
  refine Fn.use hS ?_
  simp -dsimp only [List.getElem?_cons_zero, List.getElem?_cons_succ, e1, e2, e3, n1, n2, show ((0 : Int) == 0) = true from rfl, show (((8 : Nat) : Int) == 8) = true from rfl, show ((⟨#[39, 115]⟩ : ByteArray) == ⟨#[39, 115]⟩) = true from ba_refl _, show ((5 : Int) == 5) = true from rfl, show (((5 : Nat) : Int) == 5) = true from rfl, show (((2 : Nat) : Int) == 2) = true from rfl, show ((8 : Int) == 8) = true from rfl, show ((2 : Int) == 2) = true from rfl, gate, decide_true, decide_false, Bool.not_true, Bool.not_false, bTT, bTF, bFT, bFF, ↓preB, postB, genB, ↓reduceIte, Nat.reduceEqDiff, Int.reduceToNat, Int.reduceLE, Int.reduceLT, Nat.reduceAdd, Nat.reduceLeDiff, intBin, strBin, unD, extractD, lit1, lit2, lit3, keptD, boxR, D.one, D.pub1, D.cells, splice, cutOwn]
  exact fun _ => ⟨by decide, by decide, fun _ => ⟨by decide, Ret.isH hle1 hcl rfl (.bool _)⟩⟩
end Go.Proofs.Ytapkbkniooleaaa.Vs
