/- numbers of YtldlcejlfaogbaaGreatDoor -/
import Derived.Test.YtldlcejlfaogbaaGreatDoorTxC
import Derived.Test.YtldlcejlfaogbaaGreatDoorRdF3
import Derived.Test.YtldlcejlfaogbaaGreatDoorLawReturnsA
namespace Go.Proofs.YtldlcejlfaogbaaGreatDoor.Vs
set_option linter.unusedVariables false
set_option linter.unusedSimpArgs false
set_option maxRecDepth 20000
theorem badW_symT {w : Wd} (h : badW w = 0) : ∀ s ∈ w, symOK s = true := by
  intro s hs
  have h16 := good16 h s hs
  rw [bytes_sym (by omega)]
  unfold badW at h
  split at h
  · cases h
  · split at h
    · cases h
    · rename_i h2
      have a2 : ∀ s ∈ w, bytesOK s = true ∧ (s == ⟨#[]⟩) = false := by simpa using h2
      obtain ⟨h3, h4⟩ := a2 s hs
      rw [h3, h4]; rfl
theorem sym_bytes {s : ByteArray} (h : symOK s = true) : s.size ≤ 16 ∧ 1 ≤ s.size ∧ ∀ b ∈ s.data.toList, badI b.toNat = false := by
  unfold symOK at h
  simp only [Bool.and_eq_true, decide_eq_true_eq] at h
  refine ⟨h.2.2, h.2.1, fun b hb => ?_⟩
  have h1 := h.1
  rw [← toB_of s, bytesOK_toB, List.all_eq_true] at h1
  have := h1 b hb
  simpa using this
theorem badI_ne {c : UInt8} (h : badI c.toNat = false) : c ≠ 10 ∧ c ≠ 32 ∧ c ≠ 60 ∧ c ≠ 62 := by
  refine ⟨?_, ?_, ?_, ?_⟩ <;>
  · rintro rfl
    revert h
    decide
theorem writL_plain : ∀ {w : Wd}, (∀ s ∈ w, symOK s = true) → ∀ b ∈ writL w, b ≠ 10 ∧ b ≠ 32
  | [], _, b, hb => by cases hb
  | s :: w, h, b, hb => by
    rw [writL] at hb
    have hs := (sym_bytes (h s (by simp))).2.2
    rcases List.mem_append.1 hb with h1 | h1
    · split at h1
      · have := badI_ne (hs b h1); exact ⟨this.1, this.2.1⟩
      · rcases List.mem_cons.1 h1 with rfl | h1
        · decide
        · rcases List.mem_append.1 h1 with h1 | h1
          · have := badI_ne (hs b h1); exact ⟨this.1, this.2.1⟩
          · rw [List.mem_singleton.1 h1]; decide
    · exact writL_plain (fun x hx => h x (List.mem_cons_of_mem _ hx)) b h1
theorem wordL_plain {w : Wd} (h : ∀ s ∈ w, symOK s = true) : ∀ b ∈ wordL w, b ≠ 10 ∧ b ≠ 32 := by
  intro b hb
  unfold wordL at hb
  split at hb
  · simp only [List.mem_cons, List.not_mem_nil, or_false] at hb
    rcases hb with rfl | rfl <;> decide
  · exact writL_plain h b hb
theorem rdF_writ : ∀ {w : Wd}, (∀ s ∈ w, symOK s = true) → rdF (writL w) = some w
  | [], _ => by rw [writL, rdF]
  | s :: w, h => by
    have ih := rdF_writ (w := w) fun x hx => h x (List.mem_cons_of_mem _ hx)
    have hsy := h s (by simp)
    obtain ⟨h16, h1, hb⟩ := sym_bytes hsy
    rw [writL]
    have hlen : s.data.toList.length = s.size := by simp
    by_cases h2 : s.size = 1
    · rw [if_pos h2]
      obtain ⟨c, hc⟩ : ∃ c, s.data.toList = [c] := List.length_eq_one_iff.1 (by omega)
      have hbc := hb c (by rw [hc]; simp)
      obtain ⟨_, _, h60, _⟩ := badI_ne hbc
      have hsB : toB [c] = s := by rw [← hc]; exact toB_of s
      rw [hc, List.singleton_append, rdF, if_neg h60, if_neg (by rw [hbc]; decide), ih, hsB]
      rfl
    · rw [if_neg h2]
      have hno : (62 : UInt8) ∉ s.data.toList := fun hm => (badI_ne (hb 62 hm)).2.2.2 rfl
      have hap : 60 :: (s.data.toList ++ [62]) ++ writL w = 60 :: (s.data.toList ++ 62 :: writL w) := by simp
      obtain ⟨g1, g2⟩ := headL_app 62 (writL w) s.data.toList hno
      rw [hap, rdF, if_pos rfl, g1, g2, if_pos ⟨by simp, by omega, by rw [toB_of]; exact hsy⟩, ih, toB_of]
      rfl
theorem rdW_writ {w : Wd} (h : ∀ s ∈ w, symOK s = true) (h0 : w ≠ []) (hb : brkW w = false) : rdW (toB (writL w)) = (w, true) := by
  have hf := rdF_writ h
  have hne : (toB (writL w) == (⟨#[]⟩ : ByteArray)) = false := by
    rw [← toB_nil, toB_beq]
    refine decide_eq_false fun e => h0 ?_
    rw [e, rdF] at hf
    exact (Option.some.inj hf).symm
  have hnb : (toB (writL w) == brk) = false := by
    rw [show brk = toB [91, 93] from rfl, toB_beq]
    refine decide_eq_false fun e => ?_
    rw [e] at hf
    have : rdF [91, 93] = some [toB [91], toB [93]] := by
      rw [rdF, if_neg (by decide), if_neg (by decide), rdF, if_neg (by decide), if_neg (by decide), rdF]; rfl
    rw [this] at hf
    rw [← Option.some.inj hf] at hb
    revert hb
    decide
  unfold rdW
  rw [hnb, hne, toB_list, hf]
  rfl
theorem rdW_word {w : Wd} (h : ∀ s ∈ w, symOK s = true) (hb : brkW w = false) : rdW (toB (wordL w)) = (w, true) := by
  unfold wordL
  split
  · rename_i h0
    rw [List.eq_nil_of_length_eq_zero h0]
    rfl
  · rename_i h0
    exact rdW_writ h (fun e => h0 (by rw [e]; rfl)) hb
theorem cutL_app (b : UInt8) (x y : List UInt8) (h : b ∉ x) : cutL b (x ++ b :: y) = x :: cutL b y := by
  obtain ⟨h1, h2⟩ := headL_app b y x h
  rw [cutL_head, h1, h2, if_pos (by simp)]
theorem cutL_one (b : UInt8) (x : List UInt8) (h : b ∉ x) : cutL b x = [x] := by
  rw [cutL_head, (headL_not b h).1, if_neg h]
def lineL (r : Sh) : List UInt8 := writL r.From ++ 32 :: ([61] ++ 32 :: wordL r.To)
theorem rowTx_line (r : Sh) (T : List UInt8) : rowTx r ++ T = lineL r ++ 10 :: T := by
  simp [rowTx, lineL]
structure GoodR (r : Sh) : Prop where
  f : ∀ s ∈ r.From, symOK s = true
  t : ∀ s ∈ r.To, symOK s = true
  ne : r.From ≠ []
  fb : brkW r.From = false
  tb : brkW r.To = false
  fl : (writL r.From).length ≤ 400
  tl : (wordL r.To).length ≤ 400
  f60 : r.From.length ≤ 60
  t60 : r.To.length ≤ 60
theorem cut_line {r : Sh} (h : GoodR r) : cutL 32 (lineL r) = [writL r.From, [61], wordL r.To] := by
  unfold lineL
  rw [cutL_app 32 _ _ fun hm => (writL_plain h.f 32 hm).2 rfl, cutL_app 32 _ _ (by decide), cutL_one 32 _ fun hm => (wordL_plain h.t 32 hm).2 rfl]
theorem line_no {r : Sh} (h : GoodR r) : (10 : UInt8) ∉ lineL r := by
  intro hm
  unfold lineL at hm
  rcases List.mem_append.1 hm with h1 | h1
  · exact (writL_plain h.f 10 h1).1 rfl
  · simp only [List.singleton_append, List.mem_cons] at h1
    rcases h1 with h1 | h1 | h1 | h1
    · revert h1; decide
    · revert h1; decide
    · revert h1; decide
    · exact (wordL_plain h.t 10 h1).1 rfl
theorem lines_text : ∀ {t : List Sh}, (∀ r ∈ t, GoodR r) → linesL 10 (textL t) = t.map lineL
  | [], _ => linesL_nil 10
  | r :: t, h => by
    have ih := lines_text (t := t) fun x hx => h x (List.mem_cons_of_mem _ hx)
    have hr := h r (by simp)
    have e : textL (r :: t) = lineL r ++ 10 :: textL t := by
      show rowTx r ++ textL t = _
      exact rowTx_line r _
    obtain ⟨h1, h2⟩ := headL_app 10 (textL t) (lineL r) (line_no hr)
    rw [e, linesL_cons 10 (by simp), h1, h2, ih]
    rfl
theorem row_line {done : List Sh} {r : Sh} (h : GoodR r) (hd : hasF done r.From = false) : rowL done (lineL r) = some (r, false) := by
  rw [rowL_three (cut_line h)]
  have e1 := rdW_writ h.f h.ne h.fb
  have e2 := rdW_word h.t h.tb
  rw [e1, e2, if_pos ⟨rfl, rfl, rfl, hd⟩]
  have h1 := h.fl
  have h2 := h.tl
  have h3 := h.f60
  have h4 := h.t60
  rw [decide_eq_false (by omega), decide_eq_false (by show ¬ 60 < max r.From.length r.To.length; omega)]
  rfl
theorem go_text : ∀ {t done : List Sh} {i : Nat}, (∀ r ∈ t, GoodR r) → (done ++ t).Pairwise (fun a b => ltW a.From b.From = true) → goR (t.map lineL) i done false = .ok (done ++ t, false)
  | [], done, i, _, _ => by rw [List.map_nil, goR, List.append_nil]
  | r :: t, done, i, h, hp => by
    have hd : hasF done r.From = false := by
      unfold hasF
      rw [List.any_eq_false]
      intro x hx he
      have := (List.pairwise_append.1 hp).2.2 x hx r (by simp)
      rw [eqW_iff.1 he, ltW_irrefl] at this
      cases this
    rw [List.map_cons, goR, row_line (h r (by simp)) hd]
    simp only [Bool.or_false]
    have := go_text (t := t) (done := done ++ [r]) (i := i + 1) (fun x hx => h x (List.mem_cons_of_mem _ hx)) (by simpa using hp)
    simpa using this
theorem read_text {t : List Sh} (ht : badT t = 0) (hb : t.any brkR = false) (hl : t.any longR = false) (hs : (textL t).length ≤ 6000) : readR (toB (textL t)) = (t, 0, 0) := by
  obtain ⟨a3, a4, a7⟩ := badT_zero ht
  obtain ⟨a6, _⟩ := table_ok ht
  have a5 := firstE_zero a4
  have hg : ∀ r ∈ t, GoodR r := fun r hr => by
    have h1 := a5 r hr
    have h2 := List.any_eq_false.1 hb r hr
    have h3 := List.any_eq_false.1 hl r hr
    simp only [brkR, Bool.or_eq_true, not_or, Bool.not_eq_true] at h2
    simp only [longR, Bool.or_eq_true, not_or, decide_eq_true_eq] at h3
    exact ⟨badW_symT h1.1, badW_symT h1.2, a6 r hr, h2.1, h2.2, by omega, by omega, badW_len h1.1, badW_len h1.2⟩
  have hp := ordBad_pair a7
  have hgo := go_text (done := []) (i := 0) hg (by simpa using hp)
  rw [List.nil_append] at hgo
  rw [readR_go hs, lines_text hg, hgo]
  have hsorted : sortedP t := hp.imp fun h => not_lt_of h
  have hsrt : srtT t = t := sorted_unique (srtT_perm t) (srtT_sorted t) hsorted fun x hx y hy he => by
    have hx' := (srtT_perm t).mem_iff.1 hx
    have hy' := (srtT_perm t).mem_iff.1 hy
    obtain ⟨i, hi, rfl⟩ := List.getElem_of_mem hx'
    obtain ⟨j, hj, rfl⟩ := List.getElem_of_mem hy'
    rcases Nat.lt_trichotomy i j with h | h | h
    · have := List.pairwise_iff_getElem.1 hp i j hi hj h
      rw [he, ltW_irrefl] at this; cases this
    · subst h; rfl
    · have := List.pairwise_iff_getElem.1 hp j i hj hi h
      rw [he, ltW_irrefl] at this; cases this
  simp only [hsrt]
  rw [if_pos ht]
end Go.Proofs.YtldlcejlfaogbaaGreatDoor.Vs
