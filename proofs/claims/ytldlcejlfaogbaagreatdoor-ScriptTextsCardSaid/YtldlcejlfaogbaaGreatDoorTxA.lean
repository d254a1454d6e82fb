/- numbers of YtldlcejlfaogbaaGreatDoor -/
import Derived.Shelf.Strings.OnBuilder
import Derived.WalkKit
import Derived.Deep.LoopGhost
import Derived.Test.YtldlcejlfaogbaaGreatDoorMgB
import Derived.Test.YtldlcejlfaogbaaGreatDoorJoF6
import Derived.Test.YtldlcejlfaogbaaGreatDoorShJoin
namespace Go.Proofs.YtldlcejlfaogbaaGreatDoor.Vs
open Go.Shelf Go.RowKit Go.Sort
set_option linter.unusedVariables false
set_option linter.unusedSimpArgs false
set_option maxRecDepth 100000
def Tryz.lays170_ren : Go.Shelf.Ren := ⟨fun | 170 => 123 | n => n, fun | 70 => 173 | 3 => 3 | 0 => 0 | 72 => 176 | 37 => 174 | 5 => 5 | n => n, fun | n => n⟩
theorem Tryz.lays170 : Go.Proofs.Lays.n170 Tryz.prog Tryz.lays170_ren := {
  mixed := by kernel_rfl
  f170 := Tryz.func123.trans (congrArg some (by kernel_rfl))
  t0 := Tryz.underlying0
  a0 := Tryz.isAgg0
  z0 := Tryz.sizeOf0
  v0 := Tryz.zeroValue0
  t3 := Tryz.underlying3
  a3 := Tryz.isAgg3
  z3 := Tryz.sizeOf3
  v3 := Tryz.zeroValue3
  t37 := Tryz.underlying174
  a37 := Tryz.isAgg174
  z37 := Tryz.sizeOf174
  v37 := Tryz.zeroValue174
  t70 := Tryz.underlying173
  a70 := Tryz.isAgg173
  z70 := Tryz.sizeOf173
  v70 := Tryz.zeroValue173
  t72 := Tryz.underlying176
  a72 := Tryz.isAgg176
  z72 := Tryz.sizeOf176
  v72 := Tryz.zeroValue176 }
theorem bWrite (B : Nat) (l : List UInt8) (s : ByteArray) (w : World) (h : Lib.IsBuilder 176 5 B B (Lib.byteCells l) w) (hl : l.length ≤ 100000) (hs : s.size ≤ 100000) (hB : B ≤ w.heap.size) :
    Calls Tryz.prog 122 #[.pointer (some ⟨B, 0, none⟩), .string s] w fun e w' => e = .returned (.tuple #[.int .i64 s.size, .nilIface]) ∧ Lib.IsBuilder 176 5 B B (Lib.byteCells (l ++ s.data.toList)) w' ∧ Below B w w' := by
  have L := Tryz.lays156
  refine (Any.Builder_WriteString (ρ := Tryz.lays156_ren) { L with } extra156 B B (Lib.byteCells l) s w h (by rw [Lib.byteCells_length]; omega) hB).mono ?_
  rintro e w' ⟨rfl, h1, h2⟩
  refine ⟨rfl, .inr ?_, h2⟩
  have e1 : Lib.byteCells l ++ Lib.strCells s = Lib.byteCells (l ++ s.data.toList) := by
    rw [Lib.byteCells_append]; rfl
  rw [← e1]
  exact h1
theorem bLen (B : Nat) (l : List UInt8) (w : World) (h : Lib.IsBuilder 176 5 B B (Lib.byteCells l) w) : Calls Tryz.prog 123 #[.pointer (some ⟨B, 0, none⟩)] w fun e w' => e = .returned (.int .i64 l.length) ∧ w' = w := by
  refine (Any.Builder_Len Tryz.lays170 B B (Lib.byteCells l) w h).mono ?_
  rintro e w' ⟨rfl, rfl⟩
  exact ⟨by rw [Lib.byteCells_length], rfl⟩
theorem bString (B : Nat) (l : List UInt8) (w : World) (h : Lib.IsBuilder 176 5 B B (Lib.byteCells l) w) (hB : B ≤ w.heap.size) : Calls Tryz.prog 124 #[.pointer (some ⟨B, 0, none⟩)] w fun e w' => e = .returned (.string ⟨l.toArray⟩) ∧ Below B w w' := by
  have L := Tryz.lays156
  exact Any.Builder_String_any (ρ := Tryz.lays156_ren) { L with } extra156 B B l w h hB
theorem cell_below {w w' : World} {B b o : Nat} {v : Value} (h : Below B w w') (hb : b < B) (hc : w.cell? ⟨b, o, none⟩ = some v) : w'.cell? ⟨b, o, none⟩ = some v := by
  have := h.block b hb
  simp only [World.cell?, this] at hc ⊢
  exact hc
theorem writL_take {x : Wd} {k : Nat} (h : k < x.length) : writL (x.take (k + 1)) = writL (x.take k) ++ (if x[k].size = 1 then x[k].data.toList else 60 :: (x[k].data.toList ++ [62])) := by
  rw [List.take_succ_eq_append_getElem h, writL_append]
  simp only [writL, List.append_nil]
set_option maxHeartbeats 4000000 in
theorem symsText_raw {w : World} {v : Value} {x : Wd} (hv : RdW w v x) (h0 : x ≠ []) (h60 : x.length ≤ 60) (h16 : ∀ s ∈ x, s.size ≤ 16) (hval : Calls Tryz.prog 91 #[v] w fun e w' => e = .returned (.int .i64 0) ∧ Below w.heap.size w w') :
    Calls Tryz.prog 71 #[v] w fun e w' => (if 400 < (writL x).length then e = .returned (.tuple #[.string ⟨#[]⟩, .int .i64 3]) else e = .returned (.tuple #[.string (writB x), .int .i64 0])) ∧ Below w.heap.size w w' := by
  obtain ⟨A, c, rfl, hx, hmem⟩ := hv
  obtain ⟨b, o, rfl, hc⟩ := hmem h0
  have hlen := writL_len h16
  generalize hn : x.length = n at *
  go_enter Tryz.func71, Tryz.ntmps71
  go_wp2_with (go_at_call 91; refine hval.mono ?_; rintro e w1 ⟨rfl, hb1⟩)
  go_loopg [15] n (fun g s15 wr => ∃ k : Nat, k ≤ n ∧ n - k ≤ g ∧ s15 = .int .i64 k ∧ Lib.IsBuilder 176 5 w1.heap.size w1.heap.size (Lib.byteCells (writL (x.take k))) wr ∧ Below w1.heap.size w1 wr)
  case atStart => exact ⟨0, Nat.zero_le _, by omega, rfl, by rw [List.take_zero]; exact Lib.fresh_isBuilder 176 5 w1, (Below.refl _ _).alloc (Nat.le_refl _) _⟩
  case round =>
    obtain ⟨k, hk, hg, rfl, hI, hbw⟩ := hrel
    have hw1 : w1.heap.size ≤ wr.heap.size := hbw.size
    have hlk : (writL (x.take k)).length ≤ 100000 := by
      have := writL_len (w := x.take k) fun s hs => h16 s (List.mem_of_mem_take hs)
      rw [List.length_take] at this
      omega
    by_cases hlt : k < n
    · have hcw := hc k hlt
      have hbl := World.block_lt_of_cell? _ _ hcw
      have hcell : wr.cell? ⟨b, o + k, none⟩ = some (.string (x.getD k ByteArray.empty)) := cell_below hbw (Nat.lt_of_lt_of_le hbl hb1.size) (cell_below hb1 hbl hcw)
      have hkx : k < x.length := by omega
      have hgd : x.getD k ByteArray.empty = x[k] := by rw [List.getD_eq_getElem?_getD, List.getElem?_eq_getElem hkx]; rfl
      have hs16 := h16 _ (List.getElem_mem hkx)
      have hstep := writL_take hkx
      rw [hgd] at hcell
      generalize x[k] = s at hcell hs16 hstep
      clear hc hcw hmem hval hgd
      by_cases h1 : s.size = 1
      · have e1 : ((s.size : Int) == 1) = true := by rw [h1]; rfl
        rw [if_pos h1] at hstep
        go_wp2_with (go_at_call 122; refine (bWrite w1.heap.size (writL (x.take k)) s wr hI hlk (by omega) hw1).mono ?_; rintro e W1 ⟨rfl, h2, b2⟩)
        go_roundg (n - (k + 1))
        case measure => omega
        case rel => exact ⟨k + 1, by omega, by omega, by go_num, by rw [hstep]; exact h2, hbw.trans b2⟩
      · have e1 : ((s.size : Int) == 1) = false := by simp only [beq_eq_false_iff_ne, ne_eq]; omega
        rw [if_neg h1] at hstep
        have hs2 : ((⟨#[60]⟩ : ByteArray) ++ s ++ ⟨#[62]⟩).size ≤ 100000 := by
          rw [ByteArray.size_append, ByteArray.size_append]
          have z1 : (ByteArray.mk #[60]).size = 1 := rfl
          have z2 : (ByteArray.mk #[62]).size = 1 := rfl
          omega
        have hs3 : ((⟨#[60]⟩ : ByteArray) ++ s ++ ⟨#[62]⟩).data.toList = 60 :: (s.data.toList ++ [62]) := by simp
        have hB := bWrite w1.heap.size (writL (x.take k)) ((⟨#[60]⟩ : ByteArray) ++ s ++ ⟨#[62]⟩) wr hI hlk hs2 hw1
        rw [hs3, ← hstep] at hB
        go_wp2_with (go_at_call 122; refine hB.mono ?_; rintro e W1 ⟨rfl, h2, b2⟩)
        go_roundg (n - (k + 1))
        case measure => omega
        case rel => exact ⟨k + 1, by omega, by omega, by go_num, h2, hbw.trans b2⟩
    · have hkn : k = n := by omega
      rw [List.take_of_length_le (by omega)] at hI hlk
      clear hc hmem hval hlen
      have hL := bLen w1.heap.size (writL x) wr hI
      have hS := bString w1.heap.size (writL x) wr hI hw1
      rw [show (⟨(writL x).toArray⟩ : ByteArray) = writB x from rfl] at hS
      by_cases h4 : 400 < (writL x).length
      · have c4 : (400 : Int) < ((writL x).length : Int) := by omega
        go_wp2_with (go_at_call 123; refine hL.mono ?_; rintro e W1 ⟨rfl, rfl⟩)
        go_ret2
        exact ⟨rfl, hb1.trans (hbw.mono hb1.size)⟩
      · have c4 : ¬ (400 : Int) < ((writL x).length : Int) := by omega
        go_wp2_with (first | (go_at_call 123; refine hL.mono ?_; rintro e W1 ⟨rfl, rfl⟩) | (go_at_call 124; refine hS.mono ?_; rintro e W1 ⟨rfl, b3⟩))
        go_ret2
        exact ⟨rfl, hb1.trans ((hbw.trans b3).mono hb1.size)⟩
set_option maxHeartbeats 4000000 in
theorem symsText_nil {w : World} {A : Option Addr} {c : Nat} (hval : Calls Tryz.prog 91 #[.slice A 0 c] w fun e w' => e = .returned (.int .i64 0) ∧ Below w.heap.size w w') :
    Calls Tryz.prog 71 #[.slice A 0 c] w fun e w' => e = .returned (.tuple #[.string ⟨#[]⟩, .int .i64 0]) ∧ Below w.heap.size w w' := by
  go_enter Tryz.func71, Tryz.ntmps71
  go_wp2_with (go_at_call 91; refine hval.mono ?_; rintro e w1 ⟨rfl, hb1⟩)
  go_loopg [15] 0 (fun g s15 wr => s15 = .int .i64 0 ∧ Lib.IsBuilder 176 5 w1.heap.size w1.heap.size (Lib.byteCells []) wr ∧ Below w1.heap.size w1 wr)
  case atStart => exact ⟨rfl, Lib.fresh_isBuilder 176 5 w1, (Below.refl _ _).alloc (Nat.le_refl _) _⟩
  case round =>
    obtain ⟨rfl, hI, hbw⟩ := hrel
    have hL := bLen w1.heap.size [] wr hI
    have hS := bString w1.heap.size [] wr hI hbw.size
    clear hval
    go_wp2_with (first | (go_at_call 123; refine hL.mono ?_; rintro e W1 ⟨rfl, rfl⟩) | (go_at_call 124; refine hS.mono ?_; rintro e W1 ⟨rfl, b3⟩))
    go_ret2
    exact ⟨rfl, hb1.trans ((hbw.trans b3).mono hb1.size)⟩
/-- A contract of the machine, said of the model's worlds. -/
theorem Fn.raw {Z : Sys} {f : FuncId} {ds : List D} {k : IntKind} {n : Int} (c : Fn Z f ds (.int k n)) (hb : ∀ d ∈ ds, Bel 0 d) {w : World} {s : GH} {vs : Array Value} (hv : VL w s vs ds) (hW : W s w) :
    Calls Z.P f vs w fun e w' => e = .returned (.int k n) ∧ Below w.heap.size w w' := by
  have hle : HLe Heap.nil s.σ := ⟨Nat.zero_le _, fun r o hr => by cases hr⟩
  have hc : Closed Heap.nil := ⟨fun r o hr => (by cases hr), fun r o hr => (by cases hr)⟩
  refine ((c Heap.nil).2 w ⟨Heap.nil, s.ρ⟩ vs rfl ⟨hv.1, fun i hi => (Told.refl (σ := s.σ) (τ := Heap.nil) _).ok hW hle (hv.2 i hi) (hb _ (List.getElem_mem hi))⟩ (hW.less hle hc)).mono fun e w' ⟨v, d, s', h1, h2, h3, h4, h5, h6⟩ => ?_
  subst h5
  cases h2
  exact ⟨h1, h4.os, h4.tape, h4.output, h4.size, fun b hb => h4.blk b hb (fun r o hr => by cases hr)⟩
theorem symsText_c (x : Wd) (hx : badW x = 0) : Fn Zs 71 [encSS x] (.tup [.str (if 400 < (writL x).length then ⟨#[]⟩ else writB x), .int .i64 (if 400 < (writL x).length then 3 else 0)]) := by
  have h60 := badW_len hx
  have h16 : ∀ s ∈ x, s.size ≤ 16 := (badW_good hx).2.1
  have hlen := writL_len h16
  obtain ⟨fn, cc, hf, hb, _, _, _, hn, _⟩ := ok71.ok
  refine fn_below (Z := Zs) ⟨fn, hf, by rw [hb]; rfl, hn⟩ fun W s vs hv hW => ?_
  obtain ⟨v0, rfl⟩ : ∃ a, vs = #[a] := by
    obtain ⟨l⟩ := vs
    match l, hv.1 with
    | [a], _ => exact ⟨a, rfl⟩
  have e0 : V W (Lim s) v0 (encSS x) := hv.2 0 (by simp)
  have hbel : ∀ d ∈ [encSS x], Bel 0 d := fun d hd => by simp only [List.mem_singleton] at hd; subst hd; exact .no (bel_strs _)
  have hval := Fn.raw (symsValidateWord_c x) hbel hv hW
  rw [hx] at hval
  have hrd : RdW W v0 x := RdW.of_V e0 (by omega) fun a u h _ => h
  have key : Calls Tryz.prog 71 #[v0] W fun e w' => (if 400 < (writL x).length then e = .returned (.tuple #[.string ⟨#[]⟩, .int .i64 3]) else e = .returned (.tuple #[.string (writB x), .int .i64 0])) ∧ Below W.heap.size W w' := by
    by_cases h0 : x = []
    · subst h0
      obtain ⟨A, c, rfl, _, _⟩ := hrd
      exact symsText_nil hval
    · exact symsText_raw hrd h0 h60 h16 hval
  have big1 : (writB x).size ≤ big := by
    have : (writB x).size = (writL x).length := by rw [Lib.size_eq]; simp [writB]
    simp only [big]; omega
  by_cases h4 : 400 < (writL x).length
  · simp only [if_pos h4] at key ⊢
    refine ⟨.tuple #[.string ⟨#[]⟩, .int .i64 3], fun w' => .tup _ _ rfl fun i hi => ?_, key⟩
    match i, hi with
    | 0, _ => exact .str _ (Nat.zero_le _)
    | 1, _ => exact .int _ _
  · simp only [if_neg h4] at key ⊢
    refine ⟨.tuple #[.string (writB x), .int .i64 0], fun w' => .tup _ _ rfl fun i hi => ?_, key⟩
    match i, hi with
    | 0, _ => exact .str _ big1
    | 1, _ => exact .int _ _
end Go.Proofs.YtldlcejlfaogbaaGreatDoor.Vs
