import Derived.Test.YtapkbkniooleaaaTkA1
import Derived.Shelf.Strings.OnBuilder
import Derived.Shelf.Strings.BuilderK
import Derived.WalkKit
import Derived.Deep.LoopGhost
import Derived.StillTailTactics
import Derived.Deep.RegionWith
import Derived.Test.YtapkbkniooleaaaBridge
import Derived.Test.YtapkbkniooleaaaTkD1
import Derived.Test.YtapkbkniooleaaaTkV
/- numbers of Ytapkbkniooleaaa -/
namespace Go.Proofs.Ytapkbkniooleaaa.Vs
set_option linter.unusedVariables false
def okT (n : Nat) (a : Int) (t : Tok) : Prop := a ≤ t.fr ∧ t.fr ≤ t.to ∧ t.to ≤ n ∧ 0 ≤ t.kind ∧ t.kind ≤ 5
instance (n : Nat) (a : Int) (t : Tok) : Decidable (okT n a t) := by unfold okT; infer_instance
/-- Tokens one behind the other, from a place on. -/
def okJ (n : Nat) : Int → List Tok → Prop
  | _, [] => True
  | a, t :: l => okT n a t ∧ okJ n t.to l
def joinL (s : ByteArray) : Nat → List UInt8 → List Tok → List UInt8
  | a, o, [] => o ++ (s.extract a s.size).data.toList
  | a, o, t :: l => joinL s t.to.toNat (o ++ ((s.extract a t.fr.toNat).data.toList ++ t.text.data.toList)) l
def totT : List Tok → Nat
  | [] => 0
  | t :: l => 1 + t.text.size + totT l
open Classical in
noncomputable def jres (s : ByteArray) (l : List Tok) : ByteArray × Int := if okJ s.size 0 l then (⟨(joinL s 0 [] l).toArray⟩, 0) else (⟨#[]⟩, 1)
end Go.Proofs.Ytapkbkniooleaaa.Vs

/- numbers of Ytapkbkniooleaaa -/
namespace Go.Proofs.Ytapkbkniooleaaa.Vs
open Go.Shelf Go.RowKit
set_option linter.unusedVariables false
set_option linter.unusedSimpArgs false
set_option maxRecDepth 100000
def Try.lays166_ren : Go.Shelf.Ren := ⟨fun | 166 => 31 | 240 => 50 | 276 => 65 | n => n, fun | 37 => 67 | 70 => 66 | 72 => 69 | 75 => 71 | 80 => 74 | 164 => 96 | n => n, fun | n => n⟩
theorem Try.lays166 : Go.Proofs.Lays.n166 Try.prog Try.lays166_ren := {
  mixed := by kernel_rfl
  f166 := Try.func31.trans (congrArg some (by kernel_rfl))
  f240 := Try.func50.trans (congrArg some (by kernel_rfl))
  f276 := Try.func65.trans (congrArg some (by kernel_rfl))
  t0 := Try.underlying0
  a0 := Try.isAgg0
  z0 := Try.sizeOf0
  v0 := Try.zeroValue0
  t3 := Try.underlying3
  a3 := Try.isAgg3
  z3 := Try.sizeOf3
  v3 := Try.zeroValue3
  t4 := Try.underlying4
  a4 := Try.isAgg4
  z4 := Try.sizeOf4
  v4 := Try.zeroValue4
  t9 := Try.underlying9
  a9 := Try.isAgg9
  z9 := Try.sizeOf9
  v9 := Try.zeroValue9
  t20 := Try.underlying20
  a20 := Try.isAgg20
  z20 := Try.sizeOf20
  v20 := Try.zeroValue20
  t37 := Try.underlying67
  a37 := Try.isAgg67
  z37 := Try.sizeOf67
  v37 := Try.zeroValue67
  t70 := Try.underlying66
  a70 := Try.isAgg66
  z70 := Try.sizeOf66
  v70 := Try.zeroValue66
  t72 := Try.underlying69
  a72 := Try.isAgg69
  z72 := Try.sizeOf69
  v72 := Try.zeroValue69
  t75 := Try.underlying71
  a75 := Try.isAgg71
  z75 := Try.sizeOf71
  v75 := Try.zeroValue71
  t164 := Try.underlying96
  a164 := Try.isAgg96
  z164 := Try.sizeOf96
  v164 := Try.zeroValue96 }
def Try.lays169_ren : Go.Shelf.Ren := ⟨fun | 169 => 32 | n => n, fun | 70 => 66 | 9 => 9 | 0 => 0 | 72 => 69 | 37 => 67 | 127 => 86 | 3 => 3 | 5 => 5 | n => n, fun | n => n⟩
theorem Try.lays169 : Go.Proofs.Lays.n169 Try.prog Try.lays169_ren := {
  mixed := by kernel_rfl
  f169 := Try.func32.trans (congrArg some (by kernel_rfl))
  t0 := Try.underlying0
  a0 := Try.isAgg0
  z0 := Try.sizeOf0
  v0 := Try.zeroValue0
  t3 := Try.underlying3
  a3 := Try.isAgg3
  z3 := Try.sizeOf3
  v3 := Try.zeroValue3
  t9 := Try.underlying9
  a9 := Try.isAgg9
  z9 := Try.sizeOf9
  v9 := Try.zeroValue9
  t37 := Try.underlying67
  a37 := Try.isAgg67
  z37 := Try.sizeOf67
  v37 := Try.zeroValue67
  t70 := Try.underlying66
  a70 := Try.isAgg66
  z70 := Try.sizeOf66
  v70 := Try.zeroValue66
  t72 := Try.underlying69
  a72 := Try.isAgg69
  z72 := Try.sizeOf69
  v72 := Try.zeroValue69
  t127 := Try.underlying86
  a127 := Try.isAgg86
  z127 := Try.sizeOf86
  v127 := Try.zeroValue86 }
theorem extra166 : Builder.Extra Try.prog Try.lays166_ren := {
  sizeBuilder := by kernel_rfl
  liesBuilder := by kernel_rfl
  t5 := (TI.out ti5).1
  a5 := Try.isAgg5
  z5 := Try.sizeOf5
  v5 := Try.zeroValue5
  infoByte := by kernel_rfl
  cellsByte := by kernel_rfl
  sizeByte := by kernel_rfl
  neB5 := by decide }
theorem extra169 : Builder.Extra Try.prog Try.lays169_ren := {
  sizeBuilder := by kernel_rfl
  liesBuilder := by kernel_rfl
  t5 := (TI.out ti5).1
  a5 := Try.isAgg5
  z5 := Try.sizeOf5
  v5 := Try.zeroValue5
  infoByte := by kernel_rfl
  cellsByte := by kernel_rfl
  sizeByte := by kernel_rfl
  neB5 := by decide }
theorem bWrite (B : Nat) (b : Nat) (l : List UInt8) (s : ByteArray) (w : World) (h : Lib.IsBuilderF 69 5 B b (Lib.byteCells l) w) (hl : l.length ≤ 10000000) (hs : s.size ≤ 10000000) (hB : B ≤ w.heap.size) :
    Calls Try.prog 31 #[.pointer (some ⟨b, 0, none⟩), .string s] w fun e w' => e = .returned (.tuple #[.int .i64 s.size, .nilIface]) ∧ Lib.IsBuilderF 69 5 B b (Lib.byteCells (l ++ s.data.toList)) w' ∧ Below B w w' ∧ Lib.OthersKept 5 (some b) w w' := by
  have L := Try.lays166
  refine (Any.Builder_WriteString_k (ρ := Try.lays166_ren) L extra166 B b (Lib.byteCells l) s w h (by rw [Lib.byteCells_length]; omega) hB).mono ?_
  rintro e w' ⟨rfl, h1, h2, h3⟩
  refine ⟨rfl, .inr ?_, h2, h3⟩
  have e1 : Lib.byteCells l ++ Lib.strCells s = Lib.byteCells (l ++ s.data.toList) := by
    rw [Lib.byteCells_append]; rfl
  rw [← e1]
  exact h1
theorem bString (B : Nat) (b : Nat) (l : List UInt8) (w : World) (h : Lib.IsBuilderF 69 5 B b (Lib.byteCells l) w) (hB : B ≤ w.heap.size) : Calls Try.prog 32 #[.pointer (some ⟨b, 0, none⟩)] w fun e w' => e = .returned (.string ⟨l.toArray⟩) ∧ Below B w w' := by
  have L := Try.lays169
  refine (Any.Builder_String_any_f (ρ := Try.lays169_ren) L extra169 B b l w h hB).mono ?_
  rintro e w' ⟨rfl, _, h2⟩
  exact ⟨rfl, h2⟩
theorem cell_below {w w' : World} {B b o : Nat} {v : Value} (h : Below B w w') (hb : b < B) (hc : w.cell? ⟨b, o, none⟩ = some v) : w'.cell? ⟨b, o, none⟩ = some v := by
  have := h.block b hb
  simp only [World.cell?, this] at hc ⊢
  exact hc
def tAt (l : List Tok) (k : Nat) : Tok := l.getD k ⟨0, 0, 0, ⟨#[]⟩⟩
theorem drop_tAt {l : List Tok} {k : Nat} (h : k < l.length) : l.drop k = tAt l k :: l.drop (k + 1) := by
  rw [List.drop_eq_getElem_cons h, tAt, List.getD_eq_getElem?_getD, List.getElem?_eq_getElem h]; rfl
def RdT (W : World) (v : Value) (l : List Tok) : Prop := ∃ A c, v = .slice A l.length c ∧ (l ≠ [] → ∃ b o, A = some ⟨b, o, none⟩ ∧ ∀ k, k < l.length → W.cell? ⟨b, o + k * 4, none⟩ = some (.int .i64 (tAt l k).fr) ∧ W.cell? ⟨b, o + k * 4 + 1, none⟩ = some (.int .i64 (tAt l k).to) ∧ W.cell? ⟨b, o + k * 4 + 2, none⟩ = some (.int .i64 (tAt l k).kind) ∧ W.cell? ⟨b, o + k * 4 + 3, none⟩ = some (.string (tAt l k).text))
theorem IsBuilder_below {T e : TypeId} {B b : Nat} {bs : List Value} {w w' : World} (h : Lib.IsBuilderF T e B b bs w) (hb : Below w.heap.size w w') : Lib.IsBuilderF T e B b bs w' := by
  have key : ∀ p, Lib.BuilderAtF T e B b p bs w → Lib.BuilderAtF T e B b p bs w' := fun p ⟨h1, v, h2, h3, h4⟩ => by
    have lt : ∀ {j : Nat} {o : Obj}, w.heap[j]? = some o → j < w.heap.size := fun {j o} h => by
      rcases Nat.lt_or_ge j w.heap.size with h' | h'
      · exact h'
      · rw [Array.getElem?_eq_none h'] at h; cases h
    refine ⟨h1, v, by rw [hb.block b (lt h2)]; exact h2, ?_, h4⟩
    obtain ⟨g1, g2⟩ := h3
    refine ⟨g1, ?_⟩
    rcases g2 with g2 | ⟨g, cap, cur, fz, e1, e2, e3, e4⟩
    · exact .inl g2
    · exact .inr ⟨g, cap, cur, fz, e1, e2, by rw [hb.block g (lt e3)]; exact e3, e4⟩
  rcases h with h | h
  · exact .inl (key _ h)
  · exact .inr (key _ h)
theorem jres_bad {s : ByteArray} {l : List Tok} (h : ¬ okJ s.size 0 l) : jres s l = (⟨#[]⟩, 1) := by unfold jres; rw [if_neg h]
theorem jres_ok {s : ByteArray} {l : List Tok} (h : okJ s.size 0 l) : jres s l = (⟨(joinL s 0 [] l).toArray⟩, 0) := by unfold jres; rw [if_pos h]
theorem cell_kept {w w' : World} {b k : Nat} {f e kd : Value} {tx : Value} (h : Lib.OthersKept 5 (some b) w w') (hk : w.heap[k]? = some (Obj.cells #[f, e, kd, tx] 35 (0, 0))) (hb : k ≠ b) : w'.cell? ⟨k, 1, none⟩ = some e := by
  have h2 := h k _ hk (fun h => hb (Option.some.inj h)) (fun c fz h => by injection h with _ h; exact absurd h (by decide))
  unfold World.cell?
  simp only [h2]
  rfl
theorem IsBuilderF_lt {T e : TypeId} {B b : Nat} {bs : List Value} {w : World} (h : Lib.IsBuilderF T e B b bs w) : b < w.heap.size := h.elim (fun h => h.lt) (fun h => h.lt)
theorem ba_extJ {a b : ByteArray} (h : a.data.toList = b.data.toList) : a = b := by cases a; cases b; congr 1; exact Array.toList_inj.1 h
theorem cell_new (w : World) (cs : Array Value) (t : TypeId) (i : Nat) : (w.alloc (.cells cs t)).drew.cell? ⟨w.heap.size, i, none⟩ = cs[i]? := by
  have h : (w.alloc (.cells cs t)).drew.heap[w.heap.size]? = some (.cells cs t) := by
    show (w.heap.push (.cells cs t))[w.heap.size]? = _
    exact Array.getElem?_push_size
  unfold World.cell?
  simp only [h]
  rfl
set_option maxHeartbeats 4000000 in
theorem join_raw {w : World} {v : Value} {l : List Tok} {s : ByteArray} (hv : RdT w v l) (hn : l.length ≤ 1000000) (hs : s.size ≤ 1000000) (ht : totT l ≤ 1000000) :
    Calls Try.prog 13 #[.string s, v] w fun e w' => e = .returned (.tuple #[.string (jres s l).1, .int .i64 (jres s l).2]) ∧ Below w.heap.size w w' := by
  obtain ⟨A, c, rfl, hmem⟩ := hv
  generalize hnl : l.length = n at *
  have A1 : Aside (∀ k, k < n → l.drop k = tAt l k :: l.drop (k + 1)) := fun k hk => drop_tAt (by omega)
  have A2 : Aside (n = 0 → l = []) := fun h => List.eq_nil_of_length_eq_zero (by omega)
  have A3 : Aside (l.length = n) := hnl
  have A4 : Aside (totT l ≤ 1000000) := ht
  have A5 : Aside (¬ okJ s.size 0 l → jres s l = (⟨#[]⟩, 1)) := jres_bad
  have A6 : Aside (okJ s.size 0 l → jres s l = (⟨(joinL s 0 [] l).toArray⟩, 0)) := jres_ok
  have A7 : Aside (l ≠ [] → _) := hmem
  clear hnl ht hmem
  generalize hj : jres s l = J at *
  have A8 : Aside (jres s l = J) := hj
  clear hj
  go_enter Try.func13, Try.ntmps13
  go_wp2
  go_loopg [6, 14] n (fun g s6 s14 wr => ∃ (k : Nat) (a : Int), k ≤ n ∧ n - k ≤ g ∧ s14 = .int .i64 k ∧ s6 = .int .i64 a ∧ Aside (okJ s.size a (l.drop k) ↔ okJ s.size 0 l) ∧ Below w.heap.size w wr)
  case atStart => exact ⟨0, 0, Nat.zero_le _, by omega, rfl, rfl, Iff.rfl, Below.refl _ _⟩
  case round =>
    obtain ⟨k, a, hk, hg, rfl, rfl, hok, hbw⟩ := hrel
    by_cases hlt : k < n
    · have hne : l ≠ [] := fun h => by have := A3.out; rw [h] at this; simp at this; omega
      obtain ⟨b, o, rfl, hc⟩ := A7.out hne
      obtain ⟨c0, c1, c2, c3⟩ := hc k (by have := A3.out; omega)
      have hbl := World.block_lt_of_cell? _ _ c0
      replace c0 := cell_below hbw hbl c0
      replace c1 := cell_below hbw hbl c1
      replace c2 := cell_below hbw hbl c2
      replace c3 := cell_below hbw hbl c3
      have hdr := A1.out k hlt
      clear hc
      generalize tAt l k = t at *
      have B1 : Aside (okJ s.size a (l.drop k) ↔ okT s.size a t ∧ okJ s.size t.to (l.drop (k + 1))) := by
        show _ ↔ _
        rw [hdr]; exact Iff.rfl
      clear hdr
      obtain ⟨fr, to, kd, tx⟩ := t
      simp only [] at c0 c1 c2 c3
      have bad : ¬ okT s.size a ⟨fr, to, kd, tx⟩ → J = (⟨#[]⟩, 1) := fun h => A5.out fun h2 => h (B1.out.1 (hok.out.2 h2)).1
      by_cases b1 : fr < a
      · have hJ := bad fun h => by have := h.1; simp only [] at this; omega
        subst hJ
        clear bad
        go_wp2
        go_ret2
        exact ⟨rfl, hbw.alloc hbw.size _⟩
      by_cases b2 : to < fr
      · have hJ := bad fun h => by have := h.2.1; simp only [] at this; omega
        subst hJ
        clear bad
        go_wp2
        go_ret2
        exact ⟨rfl, hbw.alloc hbw.size _⟩
      by_cases b3 : (s.size : Int) < to
      · have hJ := bad fun h => by have := h.2.2.1; simp only [] at this; omega
        subst hJ
        clear bad
        go_wp2
        go_ret2
        exact ⟨rfl, hbw.alloc hbw.size _⟩
      by_cases b4 : kd < 0
      · have hJ := bad fun h => by have := h.2.2.2.1; simp only [] at this; omega
        subst hJ
        clear bad
        go_wp2
        go_ret2
        exact ⟨rfl, hbw.alloc hbw.size _⟩
      by_cases b5 : 5 < kd
      · have hJ := bad fun h => by have := h.2.2.2.2; simp only [] at this; omega
        subst hJ
        clear bad
        go_wp2
        go_ret2
        exact ⟨rfl, hbw.alloc hbw.size _⟩
      have B2 : Aside (okT s.size a ⟨fr, to, kd, tx⟩) := ⟨by simp only []; omega, by simp only []; omega, by simp only []; omega, by simp only []; omega, by simp only []; omega⟩
      clear bad
      go_wp2
      go_roundg (n - (k + 1))
      case measure => omega
      case rel =>
        refine ⟨k + 1, to, by omega, by omega, by go_num, rfl, ?_, hbw.alloc hbw.size _⟩
        have h1 := B1.out
        have h2 := B2.out
        have h3 := hok.out
        show _ ↔ _
        rw [← h3, h1]
        exact ⟨fun h => ⟨h2, h⟩, fun h => h.2⟩
    · have hkn : k = n := by omega
      have hOK : Aside (okJ s.size 0 l) := by
        refine hok.out.1 ?_
        rw [List.drop_of_length_le (by have := A3.out; omega)]
        trivial
      have hJ := A6.out hOK.out
      subst hJ
      have C0 : Aside (n = k) := hkn.symm
      clear hok
      have W0 : Aside (w.heap.size ≤ wr.heap.size) := hbw.size
      generalize hW1 : wr = W1 at *
      clear hW1
      go_wp2
      go_loopg [6, 51] n (fun g s6 s51 wx => ∃ (i p : Nat) (out : List UInt8), i ≤ n ∧ n - i ≤ g ∧ s51 = .int .i64 i ∧ s6 = .int .i64 p ∧ p ≤ s.size ∧ Aside (okJ s.size p (l.drop i)) ∧ Aside (joinL s p out (l.drop i) = joinL s 0 [] l) ∧ Aside (out.length + totT (l.drop i) ≤ p + totT l) ∧ Lib.IsBuilderF 69 5 W1.heap.size W1.heap.size (Lib.byteCells out) wx ∧ Below W1.heap.size W1 wx)
      case atStart => exact ⟨0, 0, [], Nat.zero_le _, by omega, rfl, rfl, Nat.zero_le _, hOK, rfl, by show _ ≤ _; simp, Lib.IsBuilderF.of (Lib.fresh_isBuilder 69 5 W1), (Below.refl _ _).alloc (Nat.le_refl _) _⟩
      case round =>
        obtain ⟨i, p, out, hi, hg2, rfl, rfl, hp, hok, hjn, hln, hI, hbx⟩ := hrel
        by_cases hlt2 : i < n
        · have hne : l ≠ [] := fun h => by have := A3.out; rw [h] at this; simp at this; omega
          obtain ⟨b, o, rfl, hc⟩ := A7.out hne
          obtain ⟨c0, c1, c2, c3⟩ := hc i (by have := A3.out; omega)
          have hbl := World.block_lt_of_cell? _ _ c0
          replace c0 := cell_below hbx (Nat.lt_of_lt_of_le hbl hbw.size) (cell_below hbw hbl c0)
          replace c1 := cell_below hbx (Nat.lt_of_lt_of_le hbl hbw.size) (cell_below hbw hbl c1)
          replace c2 := cell_below hbx (Nat.lt_of_lt_of_le hbl hbw.size) (cell_below hbw hbl c2)
          replace c3 := cell_below hbx (Nat.lt_of_lt_of_le hbl hbw.size) (cell_below hbw hbl c3)
          have hdr := A1.out i hlt2
          clear hc
          generalize tAt l i = t at *
          have B1 : Aside (okT s.size p t ∧ okJ s.size t.to (l.drop (i + 1))) := by
            have := hok.out
            rw [hdr] at this
            exact this
          have B2 : Aside (joinL s t.to.toNat (out ++ ((s.extract p t.fr.toNat).data.toList ++ t.text.data.toList)) (l.drop (i + 1)) = joinL s 0 [] l) := by
            have := hjn.out
            rw [hdr] at this
            exact this
          have B3 : Aside (out.length + (1 + t.text.size + totT (l.drop (i + 1))) ≤ p + totT l) := by
            have := hln.out
            rw [hdr] at this
            exact this
          clear hdr hok hjn hln
          obtain ⟨fr, to, kd, tx⟩ := t
          simp only [] at c0 c1 c2 c3
          obtain ⟨f, rfl⟩ : ∃ f : Nat, fr = f := ⟨fr.toNat, by have := B1.out.1.1; simp only [] at this; omega⟩
          obtain ⟨e, rfl⟩ : ∃ e : Nat, to = e := ⟨to.toNat, by have := B1.out.1.2.1; simp only [] at this; have := B1.out.1.1; simp only [] at this; omega⟩
          have b1 : p ≤ f := by have := B1.out.1.1; simp only [] at this; omega
          have b2 : f ≤ s.size := by have h1 := B1.out.1.2.1; have h2 := B1.out.1.2.2.1; simp only [] at h1 h2; omega
          have b3 : e ≤ s.size := by have h2 := B1.out.1.2.2.1; simp only [] at h2; omega
          have b4 : tx.size ≤ 2000000 := by have h1 := B3.out; simp only [] at h1; have h2 := A4.out; omega
          have b5 : out.length ≤ 2000000 := by have h1 := B3.out; simp only [] at h1; have h2 := A4.out; omega
          have b6 : (s.extract p f ++ tx).size ≤ 10000000 := by rw [ByteArray.size_append, ByteArray.size_extract]; omega
          have b7 : W1.heap.size ≤ wr.heap.size := hbx.size
          go_wp2
          refine wp_region_still_tail 8 (by kernel_rfl) (by kernel_rfl) ?_
          simp only [List.take_succ_cons, List.take_zero, List.drop_succ_cons, List.drop_zero]
          obtain ⟨wd, hwd⟩ : ∃ wd, wd = (wr.alloc (Obj.cells #[.int .i64 (f : Nat), .int .i64 (e : Nat), .int .i64 kd, .string tx] 35)).drew := ⟨_, rfl⟩
          have d0 : wd.cell? ⟨wr.heap.size, 0, none⟩ = some (.int .i64 (f : Nat)) := by rw [hwd]; exact cell_new _ _ _ 0
          have d1 : wd.cell? ⟨wr.heap.size, 1, none⟩ = some (.int .i64 (e : Nat)) := by rw [hwd]; exact cell_new _ _ _ 1
          have d3 : wd.cell? ⟨wr.heap.size, 3, none⟩ = some (.string tx) := by rw [hwd]; exact cell_new _ _ _ 3
          have hblk0 : wd.heap[wr.heap.size]? = some (Obj.cells #[.int .i64 (f : Nat), .int .i64 (e : Nat), .int .i64 kd, .string tx] 35 (0, 0)) := by rw [hwd]; exact Array.getElem?_push_size
          have hbd : Below wr.heap.size wr wd := by rw [hwd]; exact ((Below.refl _ _).alloc (Nat.le_refl _) _).drew
          change wpStill _ _ (wr.alloc (Obj.cells #[.int .i64 (f : Nat), .int .i64 (e : Nat), .int .i64 kd, .string tx] 35)).drew (fun a' => wpList _ _ _ _ a' (wr.alloc (Obj.cells #[.int .i64 (f : Nat), .int .i64 (e : Nat), .int .i64 kd, .string tx] 35)).drew) _ _
          rw [← hwd]
          clear hwd
          have hI2 := IsBuilder_below hI hbd
          have hz : W1.heap.size ≤ wd.heap.size := Nat.le_trans b7 hbd.size
          have hbx2 : Below W1.heap.size W1 wd := hbx.trans (hbd.mono b7)
          have hcat : ¬ 9223372036854775807 < f - p + tx.size := by omega
          repeat still_step
          refine wpStill_nil ?_
          have hneb : wr.heap.size ≠ W1.heap.size := fun h5 => by
            have h6 := IsBuilderF_lt hI
            omega
          go_wp2_with (go_at_call 31; refine (bWrite W1.heap.size W1.heap.size out (s.extract p f ++ tx) wd hI2 (by omega) b6 hz).mono ?_; rintro e' W2 ⟨rfl, h2, b8, ok8⟩; have d4 : W2.cell? ⟨wr.heap.size, 1, none⟩ = some (.int .i64 (e : Nat)) := cell_kept ok8 hblk0 hneb)
          go_roundg (n - (i + 1))
          case measure => omega
          case rel =>
            refine ⟨i + 1, e, out ++ (s.extract p f ++ tx).data.toList, by omega, by omega, by go_num, rfl, b3, B1.out.2, ?_, ?_, h2, hbx2.trans b8⟩
            · have h5 := B2.out
              simp only [Int.toNat_natCast] at h5
              show joinL s e (out ++ (s.extract p f ++ tx).data.toList) (l.drop (i + 1)) = _
              rw [← h5, ByteArray.data_append, Array.toList_append]
            · have h5 := B3.out
              show (out ++ (s.extract p f ++ tx).data.toList).length + totT (l.drop (i + 1)) ≤ e + totT l
              have h6 : (s.extract p f ++ tx).data.toList.length = (f - p) + tx.size := by
                rw [← Lib.size_eq, ByteArray.size_append, ByteArray.size_extract]; omega
              rw [List.length_append, h6]
              have h7 : (f : Int) ≤ (e : Int) := B1.out.1.2.1
              have h8 : out.length + (1 + tx.size + totT (l.drop (i + 1))) ≤ p + totT l := h5
              omega
        · have hin : i = n := by omega
          have hout : Aside (out ++ (s.extract p s.size).data.toList = joinL s 0 [] l) := by
            have := hjn.out
            rw [List.drop_of_length_le (by have := A3.out; omega)] at this
            exact this
          have C1 : Aside (n = i) := hin.symm
          have hz1 : out.length ≤ 2000000 := by have h1 := hln.out; have h2 := A4.out; omega
          have hcat : ¬ 9223372036854775807 < out.length + (s.size - p) := by omega
          clear hok hjn hln
          go_wp2
          go_region_with (go_at_call 32; refine (bString W1.heap.size W1.heap.size out wr.drew hI hbx.size).mono ?_; rintro e W3 ⟨rfl, b3⟩)
          all_goals
            go_wp2
            go_ret2
            have hfin : (⟨out.toArray⟩ : ByteArray) ++ s.extract p s.size = ⟨(joinL s 0 [] l).toArray⟩ := by
              rw [← hout.out]
              exact ba_extJ (by rw [ByteArray.data_append, Array.toList_append])
            exact ⟨by rw [← hfin]; rfl, hbw.trans ((hbx.drew.trans b3).mono W0.out)⟩
theorem RdT.of_V {w : World} {s : GH} {v : Value} {l : List Tok} (h : V w (Lim s) v (.sl .no l.length (encTks l))) : RdT w v l := by
  cases h with
  | sl o n c A cs us hn hb ho g1 hc hv =>
  refine ⟨A, c, rfl, fun hne => ?_⟩
  have hp : 0 < l.length := List.length_pos_iff.2 hne
  have hlen := encTks_len l
  obtain ⟨a, rfl, hc0, _⟩ := hc 0 (by omega)
  have ha0 : a.add 0 = a := by cases a; simp [Addr.add]
  rw [ha0] at hc0
  have hsa : a.spot = none := cell_spot hc0
  refine ⟨a.block, a.off, by cases a; simp only at hsa; subst hsa; rfl, fun k hk => ?_⟩
  have hat := encTks_at hk []
  rw [List.append_nil] at hat
  have ht : tAt l k = l[k] := by rw [tAt, List.getD_eq_getElem?_getD, List.getElem?_eq_getElem hk]; rfl
  have get : ∀ i, i < 4 → ∃ hi : k * 4 + i < (encTks l).length, (encTks l)[k * 4 + i]? = (encTk l[k])[i]? ∧ w.cell? ⟨a.block, a.off + k * 4 + i, none⟩ = some (us (k * 4 + i)) := fun i hi => by
    refine ⟨by omega, ?_, ?_⟩
    · rw [← hat, List.getElem?_take, if_pos hi, List.getElem?_drop]
    · obtain ⟨a', ha', hci, _⟩ := hc (k * 4 + i) (by omega)
      cases ha'
      have e : a.add (k * 4 + i) = ⟨a.block, a.off + (k * 4 + i), none⟩ := by cases a; simp only at hsa; subst hsa; exact addr_add _ _ _
      rw [← hci, e, Nat.add_assoc]
  have val : ∀ i (hi : i < 4), ∃ hj : k * 4 + i < (encTks l).length, V w (Lim s) (us (k * 4 + i)) ((encTk l[k])[i]'(by simp [encTk]; omega)) ∧ w.cell? ⟨a.block, a.off + k * 4 + i, none⟩ = some (us (k * 4 + i)) := fun i hi => by
    obtain ⟨hj, e1, e2⟩ := get i hi
    refine ⟨hj, ?_, e2⟩
    have := hv (k * 4 + i) hj
    rw [List.getElem?_eq_getElem hj, List.getElem?_eq_getElem (by simp [encTk]; omega)] at e1
    rw [Option.some.inj e1] at this
    exact this
  rw [ht]
  obtain ⟨_, v0, c0⟩ := val 0 (by decide)
  obtain ⟨_, v1, c1⟩ := val 1 (by decide)
  obtain ⟨_, v2, c2⟩ := val 2 (by decide)
  obtain ⟨_, v3, c3⟩ := val 3 (by decide)
  change V w (Lim s) (us (k * 4 + 0)) (.int .i64 l[k].fr) at v0
  change V w (Lim s) (us (k * 4 + 1)) (.int .i64 l[k].to) at v1
  change V w (Lim s) (us (k * 4 + 2)) (.int .i64 l[k].kind) at v2
  change V w (Lim s) (us (k * 4 + 3)) (.str l[k].text) at v3
  generalize us (k * 4 + 0) = u0 at *
  generalize us (k * 4 + 1) = u1 at *
  generalize us (k * 4 + 2) = u2 at *
  generalize us (k * 4 + 3) = u3 at *
  cases v0; cases v1; cases v2; cases v3
  exact ⟨c0, c1, c2, c3⟩
theorem totT_len (l : List Tok) : l.length ≤ totT l := by
  induction l with
  | nil => exact Nat.le_refl _
  | cons t l ih => simp only [List.length_cons, totT]; omega
theorem joinL_len (s : ByteArray) : ∀ (l : List Tok) (a : Nat) (o : List UInt8), (joinL s a o l).length ≤ o.length + s.size * (l.length + 1) + totT l
  | [], a, o => by
    simp only [joinL, List.length_append, ← Lib.size_eq, ByteArray.size_extract, List.length_nil, totT]
    omega
  | t :: l, a, o => by
    have ih := joinL_len s l t.to.toNat (o ++ ((s.extract a t.fr.toNat).data.toList ++ t.text.data.toList))
    simp only [List.length_append, ← Lib.size_eq, ByteArray.size_extract] at ih
    simp only [joinL, List.length_cons, totT]
    have : s.size * (l.length + 1 + 1) = s.size * (l.length + 1) + s.size := by rw [Nat.mul_succ]
    omega
theorem Join_c (s : ByteArray) (l : List Tok) (hz : s.size + totT l ≤ 200000) : Fn Zs 13 [.str s, .sl .no l.length (encTks l)] (.tup [.str (jres s l).1, .int .i64 (jres s l).2]) := by
  obtain ⟨fn, cc, hf, hb, _, _, _, hn, _⟩ := ok13.ok
  refine fn_below (Z := Zs) ⟨fn, hf, by rw [hb]; rfl, hn⟩ fun W s' vs hv hW => ?_
  obtain ⟨v0, v1, rfl⟩ : ∃ a b, vs = #[a, b] := by
    obtain ⟨x⟩ := vs
    match x, hv.1 with
    | [a, b], _ => exact ⟨a, b, rfl⟩
  have e0 : V W (Lim s') v0 (.str s) := hv.2 0 (by simp)
  have e1 : V W (Lim s') v1 (.sl .no l.length (encTks l)) := hv.2 1 (by simp)
  have hR := RdT.of_V e1
  have hl := totT_len l
  cases e0
  have hsz : (jres s l).1.size ≤ big := by
    unfold jres
    split
    · have h1 := joinL_len s l 0 []
      have h2 : s.size * (l.length + 1) ≤ 200000 * 200001 := Nat.mul_le_mul (by omega) (by omega)
      have h3 : (⟨(joinL s 0 [] l).toArray⟩ : ByteArray).size = (joinL s 0 [] l).length := by rw [Lib.size_eq]
      simp only [List.length_nil] at h1
      simp only [big] at *
      omega
    · exact Nat.zero_le _
  refine ⟨.tuple #[.string (jres s l).1, .int .i64 (jres s l).2], fun w' => .tup _ _ rfl fun i hi => ?_, join_raw hR (by omega) (by omega) (by omega)⟩
  match i, hi with
  | 0, _ => exact .str _ hsz
  | 1, _ => exact .int _ _
end Go.Proofs.Ytapkbkniooleaaa.Vs

/- numbers of Ytapkbkniooleaaa -/
namespace Go.Proofs.Ytapkbkniooleaaa.Vs
set_option linter.unusedVariables false
set_option linter.unusedSimpArgs false
set_option maxRecDepth 100000
theorem drop_at {l : List Tok} {k : Nat} (h : k < l.length) : l.drop k = l[k] :: l.drop (k + 1) := List.drop_eq_getElem_cons h
end Go.Proofs.Ytapkbkniooleaaa.Vs
