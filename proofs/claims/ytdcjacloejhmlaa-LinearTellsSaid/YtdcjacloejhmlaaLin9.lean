/- The reference's search. -/
import Derived.Test.YtdcjacloejhmlaaLin8
namespace Go.VC
open Go Go.RowKit
theorem OwnV.cap {w : World} {B : Nat} {e : TypeId} {v : Value} {xs : List Value} (h : OwnV w B e v xs) : ∃ A c, v = .slice A xs.length c ∧ xs.length ≤ c ∧ Rd w A xs := by
  obtain ⟨A, c, rfl, ho⟩ := id h
  refine ⟨A, c, rfl, ?_, h.rd.2⟩
  rcases ho.2 with ⟨_, e⟩ | ⟨g', cap, cur, e, _, _, hle, _⟩
  · omega
  · cases e; exact hle
end Go.VC
namespace Go.Proofs.Ytdcjacloejhmlaa
open Go Go.RowKit Go.VC
set_option linter.unusedSimpArgs false
set_option linter.unusedVariables false

abbrev ListsB (A B : Option Addr) (len c d : Nat) (reg : Nat → Int) (wr : Nat → Bool) (val fr to : Nat → Int) (f : Nat) (l : List Nat) (w : World) : Prop :=
  Calls Try.prog 83 #[.slice A len c, .slice B l.length d] w fun e w' => ∃ v, e = .returned (.tuple #[v, .bool (dfs len reg wr val fr to f l).isSome]) ∧ OrdV (dfs len reg wr val fr to f l) v w' ∧ Below w.heap.size w w'

section
variable (A : Option Addr) (len c : Nat) (who reg : Nat → Int) (wr : Nat → Bool) (val fr to : Nat → Int)
abbrev GoodL (l : List Nat) : Prop := l.Nodup ∧ (∀ j ∈ l, j < len) ∧ ∀ k (hk : k < l.length), mayB len reg wr val fr to (l.take k) l[k] = true
end
theorem GoodL.more {len : Nat} {reg : Nat → Int} {wr : Nat → Bool} {val fr to : Nat → Int} {l : List Nat} {i : Nat} (h : GoodL len reg wr val fr to l) (hi : i < len) (hm : mayB len reg wr val fr to l i = true) : GoodL len reg wr val fr to (l ++ [i]) := by
  have hni : i ∉ l := by unfold mayB at hm; simp at hm; exact hm.1.1
  refine ⟨nodup_app h.1 hni, fun j hj => ?_, fun k hk => ?_⟩
  · rcases List.mem_append.1 hj with h' | h'
    · exact h.2.1 j h'
    · rw [List.mem_singleton.1 h']; exact hi
  · rw [List.length_append, List.length_singleton] at hk
    rcases Nat.lt_or_ge k l.length with h' | h'
    · rw [List.take_append_of_le_length (by omega), List.getElem_append_left h']; exact h.2.2 k h'
    · obtain rfl : k = l.length := by omega
      rw [List.take_left' rfl]; simpa using hm

set_option maxRecDepth 8000 in
set_option maxHeartbeats 4000000 in
theorem lists_full (A B : Option Addr) (len c d : Nat) (who reg : Nat → Int) (wr : Nat → Bool) (val fr to : Nat → Int) (f : Nat) (l : List Nat) (w : World) (hr : RdO w A len who reg wr val fr to) (hl : Rd w B ((intL l).map (Value.int .i64))) (h8 : len ≤ 8) (hd : l.length ≤ d)
    (hrg : ∀ i, i < len → 0 ≤ reg i ∧ reg i < 4) (hg : GoodL len reg wr val fr to l) (hfull : fullB len to l = true) : ListsB A B len c d reg wr val fr to f l w := by
  have hll := nodup_le len l hg.1 hg.2.1
  unfold ListsB
  rw [dfs_full len reg wr val fr to hfull]
  refine calls_vc (rs := [.tmp 4, .tmp 5]) Fa.mix Try.func83 rfl Try.ntmps83 rfl (by kernel_rfl) (Nat.le_of_ble_eq_true rfl) ?_
  simp -dsimp only [Fa.F83, VC.Now, VC.vc, VC.lib, VC.regQ, VC.loopK, VC.reg, VC.opP, VC.pv, VC.thenF, VC.blkF, VC.retF, VC.resV, VC.oneV, VC.evo, VC.bin, VC.binI, VC.cmpI, VC.arithI, VC.ldv, VC.slv, VC.pickP, VC.holds, VC.chainOf, VC.look, VC.junk, VC.put, VC.eff, VC.callee, VC.pureB, VC.rdK, VC.rdKs, VC.okKs, VC.eqKs, VC.fillL, VC.putL, VC.stW, VC.stOK, VC.mixF, VC.setAll, Nat.reduceAdd, Nat.reduceSub, Nat.reduceMul, if_true, if_false, ↓reduceIte, forall_const, implies_true, reduceCtorEq, ne_eq, Nat.reduceBNe, Nat.reduceBEq, IntKind.signed, Nat.reduceEqDiff, Nat.reduceLeDiff, Nat.reduceLT, eq_self, Int.reduceEq, Int.reduceLT, Int.reduceLE, Int.reduceAdd, Int.reduceSub, VC.regC_nil, VC.regC_cons, VC.regCK_eq, VC.callQ, VC.tailQ, VC.goCall, VC.chStep]
  refine CALL_of (isOrder_any A B len c d who reg wr val fr to l w hr hl h8 (by omega) hd hg.2.1 hrg hg.2.2) fun w1 hB1 => ?_
  rw [hfull]
  simp -dsimp only [Fa.F83, VC.Now, VC.vc, VC.lib, VC.regQ, VC.loopK, VC.reg, VC.opP, VC.pv, VC.thenF, VC.blkF, VC.retF, VC.resV, VC.oneV, VC.evo, VC.bin, VC.binI, VC.cmpI, VC.arithI, VC.ldv, VC.slv, VC.pickP, VC.holds, VC.chainOf, VC.look, VC.junk, VC.put, VC.eff, VC.callee, VC.pureB, VC.rdK, VC.rdKs, VC.okKs, VC.eqKs, VC.fillL, VC.putL, VC.stW, VC.stOK, VC.mixF, VC.setAll, Nat.reduceAdd, Nat.reduceSub, Nat.reduceMul, if_true, if_false, ↓reduceIte, forall_const, implies_true, reduceCtorEq, ne_eq, Nat.reduceBNe, Nat.reduceBEq, IntKind.signed, Nat.reduceEqDiff, Nat.reduceLeDiff, Nat.reduceLT, eq_self, Int.reduceEq, Int.reduceLT, Int.reduceLE, Int.reduceAdd, Int.reduceSub, VC.regC_nil, VC.regC_cons, VC.regCK_eq, VC.callQ, VC.tailQ, VC.goCall, VC.chStep]
  exact ⟨_, rfl, ⟨_, _, rfl, hl.below hB1⟩, hB1⟩

set_option maxRecDepth 8000 in
set_option maxHeartbeats 4000000 in
theorem lists_any (A : Option Addr) (len c : Nat) (who reg : Nat → Int) (wr : Nat → Bool) (val fr to : Nat → Int) (h8 : len ≤ 8)
    (hrg : ∀ i, i < len → 0 ≤ reg i ∧ reg i < 4) (hai : ∀ i, i < len → ahead fr to i i = false) :
    ∀ (f : Nat) (l : List Nat) (B : Option Addr) (d : Nat) (w : World), l.length + f = len → l.length ≤ d → GoodL len reg wr val fr to l → RdO w A len who reg wr val fr to → Rd w B ((intL l).map (Value.int .i64)) → ListsB A B len c d reg wr val fr to f l w := by
  intro f
  induction f with
  | zero =>
    intro l B d w hlf hd hg hr hl
    exact lists_full A B len c d who reg wr val fr to 0 l w hr hl h8 hd hrg hg (full_all len to hg.1 hg.2.1 (by omega))
  | succ f ih =>
    intro l B d w hlf hd hg hr hl
    cases hfull : fullB len to l with
    | true => exact lists_full A B len c d who reg wr val fr to _ l w hr hl h8 hd hrg hg hfull
    | false =>
    unfold ListsB
    rw [dfs_more len reg wr val fr to hfull]
    generalize hgd : (fun i => if mayB len reg wr val fr to l i = true then dfs len reg wr val fr to f (l ++ [i]) else none) = g
    refine calls_vc (rs := [.tmp 4, .tmp 5]) Fa.mix Try.func83 rfl Try.ntmps83 rfl (by kernel_rfl) (Nat.le_of_ble_eq_true rfl) ?_
    simp -dsimp only [Fa.F83, VC.Now, VC.vc, VC.lib, VC.regQ, VC.loopK, VC.reg, VC.opP, VC.pv, VC.thenF, VC.blkF, VC.retF, VC.resV, VC.oneV, VC.evo, VC.bin, VC.binI, VC.cmpI, VC.arithI, VC.ldv, VC.slv, VC.pickP, VC.holds, VC.chainOf, VC.look, VC.junk, VC.put, VC.eff, VC.callee, VC.pureB, VC.rdK, VC.rdKs, VC.okKs, VC.eqKs, VC.fillL, VC.putL, VC.stW, VC.stOK, VC.mixF, VC.setAll, Nat.reduceAdd, Nat.reduceSub, Nat.reduceMul, if_true, if_false, ↓reduceIte, forall_const, implies_true, reduceCtorEq, ne_eq, Nat.reduceBNe, Nat.reduceBEq, IntKind.signed, Nat.reduceEqDiff, Nat.reduceLeDiff, Nat.reduceLT, eq_self, Int.reduceEq, Int.reduceLT, Int.reduceLE, Int.reduceAdd, Int.reduceSub, VC.regC_nil, VC.regC_cons, VC.regCK_eq, VC.callQ, VC.tailQ, VC.goCall, VC.chStep]
    refine CALL_of (isOrder_any A B len c d who reg wr val fr to l w hr hl h8 (by omega) hd hg.2.1 hrg hg.2.2) fun w1 hB1 => ?_
    rw [hfull]
    simp -dsimp only [Fa.F83, VC.Now, VC.vc, VC.lib, VC.regQ, VC.loopK, VC.reg, VC.opP, VC.pv, VC.thenF, VC.blkF, VC.retF, VC.resV, VC.oneV, VC.evo, VC.bin, VC.binI, VC.cmpI, VC.arithI, VC.ldv, VC.slv, VC.pickP, VC.holds, VC.chainOf, VC.look, VC.junk, VC.put, VC.eff, VC.callee, VC.pureB, VC.rdK, VC.rdKs, VC.okKs, VC.eqKs, VC.fillL, VC.putL, VC.stW, VC.stOK, VC.mixF, VC.setAll, Nat.reduceAdd, Nat.reduceSub, Nat.reduceMul, if_true, if_false, ↓reduceIte, forall_const, implies_true, reduceCtorEq, ne_eq, Nat.reduceBNe, Nat.reduceBEq, IntKind.signed, Nat.reduceEqDiff, Nat.reduceLeDiff, Nat.reduceLT, eq_self, Int.reduceEq, Int.reduceLT, Int.reduceLE, Int.reduceAdd, Int.reduceSub, VC.regC_nil, VC.regC_cons, VC.regCK_eq, VC.callQ, VC.tailQ, VC.goCall, VC.chStep]
    refine loop_slots Fa.mix [6] [4, 5, 7, 8, 13, 14, 15, 16, 17, 18, 19, 20, 21, 22, 23, 24, 25, 26, 27, 28, 29, 30, 31, 32, 33, 34, 35, 36, 37, 38, 39] (fun m vs wx => ∃ k : Nat, k + m = len ∧ vs = [.int .i64 k] ∧ Below w.heap.size w wx ∧ ∀ i, i < k → g i = none) len (by kernel_rfl) rfl
      ⟨0, by omega, rfl, hB1, fun k hk => absurd hk (by omega)⟩ ?_
    rintro m vs u wx ⟨k, hkm, rfl, hBx, h0⟩
    by_cases hk : k < len
    · have e1 : ((k : Int) < len) = True := eq_true (by omega)
      have hlx := hl.below hBx
      have hrx := hr.below hBx
      simp -dsimp only [Fa.F83, e1, VC.Now, VC.vc, VC.lib, VC.regQ, VC.loopK, VC.reg, VC.opP, VC.pv, VC.thenF, VC.blkF, VC.retF, VC.resV, VC.oneV, VC.evo, VC.bin, VC.binI, VC.cmpI, VC.arithI, VC.ldv, VC.slv, VC.pickP, VC.holds, VC.chainOf, VC.look, VC.junk, VC.put, VC.eff, VC.callee, VC.pureB, VC.rdK, VC.rdKs, VC.okKs, VC.eqKs, VC.fillL, VC.putL, VC.stW, VC.stOK, VC.mixF, VC.setAll, Nat.reduceAdd, Nat.reduceSub, Nat.reduceMul, if_true, if_false, ↓reduceIte, forall_const, implies_true, reduceCtorEq, ne_eq, Nat.reduceBNe, Nat.reduceBEq, IntKind.signed, Nat.reduceEqDiff, Nat.reduceLeDiff, Nat.reduceLT, eq_self, Int.reduceEq, Int.reduceLT, Int.reduceLE, Int.reduceAdd, Int.reduceSub, VC.regC_nil, VC.regC_cons, VC.regCK_eq, VC.callQ, VC.tailQ, VC.goCall, VC.chStep]
      refine CALL_of (hasI_any B d l k wx hlx (by omega)) fun w4 hw4 => ?_
      subst hw4
      have nx : g k = none → ∃ m', m' < m ∧ ∃ k', k' + m' = len ∧ [Value.int .i64 ((k : Int) + 1)] = [Value.int .i64 (k' : Int)] ∧ (∀ i, i < k' → g i = none) := fun hgk =>
        ⟨m - 1, by omega, k + 1, by omega, rfl, fun i hi => by
          rcases Nat.lt_or_ge i k with h | h
          · exact h0 i h
          · obtain rfl : i = k := by omega
            exact hgk⟩
      by_cases hkl : k ∈ l
      · have e5 : decide (k ∈ l) = true := decide_eq_true hkl
        have hgk : g k = none := by rw [← hgd]; simp only []; rw [if_neg]; unfold mayB; simp [hkl]
        simp -dsimp only [Fa.F83, e5, VC.Now, VC.vc, VC.lib, VC.regQ, VC.loopK, VC.reg, VC.opP, VC.pv, VC.thenF, VC.blkF, VC.retF, VC.resV, VC.oneV, VC.evo, VC.bin, VC.binI, VC.cmpI, VC.arithI, VC.ldv, VC.slv, VC.pickP, VC.holds, VC.chainOf, VC.look, VC.junk, VC.put, VC.eff, VC.callee, VC.pureB, VC.rdK, VC.rdKs, VC.okKs, VC.eqKs, VC.fillL, VC.putL, VC.stW, VC.stOK, VC.mixF, VC.setAll, Nat.reduceAdd, Nat.reduceSub, Nat.reduceMul, if_true, if_false, ↓reduceIte, forall_const, implies_true, reduceCtorEq, ne_eq, Nat.reduceBNe, Nat.reduceBEq, IntKind.signed, Nat.reduceEqDiff, Nat.reduceLeDiff, Nat.reduceLT, eq_self, Int.reduceEq, Int.reduceLT, Int.reduceLE, Int.reduceAdd, Int.reduceSub, VC.regC_nil, VC.regC_cons, VC.regCK_eq, VC.callQ, VC.tailQ, VC.goCall, VC.chStep]
        obtain ⟨m', hm', k', hk', hv', hn'⟩ := nx hgk
        exact ⟨fits_i64_nat (by omega), SAME.intro (by kernel_rfl), m', hm', k', hk', hv', hBx, hn'⟩
      · have e5 : decide (k ∈ l) = false := decide_eq_false hkl
        have hL : (intL l).length = l.length := by simp
        have hlong : ∀ ww, Rd ww B ((intL l).map (Value.int .i64)) → Calls Try.prog 115 #[.slice B l.length d, .int .i64 k] ww fun e w' => ∃ v, e = .returned v ∧ OwnV w' ww.heap.size 3 v ((intL (l ++ [k])).map (Value.int .i64)) ∧ Below ww.heap.size ww w' := fun ww hh => by
          have h := longer_any B d (intL l) (k : Int) ww hh (by omega)
          rw [hL, show intL l ++ [(k : Int)] = intL (l ++ [k]) from by simp [intL]] at h
          exact h
        simp -dsimp only [Fa.F83, e5, VC.Now, VC.vc, VC.lib, VC.regQ, VC.loopK, VC.reg, VC.opP, VC.pv, VC.thenF, VC.blkF, VC.retF, VC.resV, VC.oneV, VC.evo, VC.bin, VC.binI, VC.cmpI, VC.arithI, VC.ldv, VC.slv, VC.pickP, VC.holds, VC.chainOf, VC.look, VC.junk, VC.put, VC.eff, VC.callee, VC.pureB, VC.rdK, VC.rdKs, VC.okKs, VC.eqKs, VC.fillL, VC.putL, VC.stW, VC.stOK, VC.mixF, VC.setAll, Nat.reduceAdd, Nat.reduceSub, Nat.reduceMul, if_true, if_false, ↓reduceIte, forall_const, implies_true, reduceCtorEq, ne_eq, Nat.reduceBNe, Nat.reduceBEq, IntKind.signed, Nat.reduceEqDiff, Nat.reduceLeDiff, Nat.reduceLT, eq_self, Int.reduceEq, Int.reduceLT, Int.reduceLE, Int.reduceAdd, Int.reduceSub, VC.regC_nil, VC.regC_cons, VC.regCK_eq, VC.callQ, VC.tailQ, VC.goCall, VC.chStep]
        refine CALL_by (hlong w4 hlx) ?_
        rintro _ w5 ⟨v5, rfl, hv5, hB5⟩
        refine ⟨_, rfl, ?_⟩
        obtain ⟨A5, c5, rfl, hc5, hr5⟩ := hv5.cap
        have hlen5 : ((intL (l ++ [k])).map (Value.int .i64)).length = l.length + 1 := by simp
        rw [hlen5] at hc5 ⊢
        have hBw5 := hBx.trans (hB5.mono hBx.size)
        simp -dsimp only [Fa.F83, e5, VC.Now, VC.vc, VC.lib, VC.regQ, VC.loopK, VC.reg, VC.opP, VC.pv, VC.thenF, VC.blkF, VC.retF, VC.resV, VC.oneV, VC.evo, VC.bin, VC.binI, VC.cmpI, VC.arithI, VC.ldv, VC.slv, VC.pickP, VC.holds, VC.chainOf, VC.look, VC.junk, VC.put, VC.eff, VC.callee, VC.pureB, VC.rdK, VC.rdKs, VC.okKs, VC.eqKs, VC.fillL, VC.putL, VC.stW, VC.stOK, VC.mixF, VC.setAll, Nat.reduceAdd, Nat.reduceSub, Nat.reduceMul, if_true, if_false, ↓reduceIte, forall_const, implies_true, reduceCtorEq, ne_eq, Nat.reduceBNe, Nat.reduceBEq, IntKind.signed, Nat.reduceEqDiff, Nat.reduceLeDiff, Nat.reduceLT, eq_self, Int.reduceEq, Int.reduceLT, Int.reduceLE, Int.reduceAdd, Int.reduceSub, VC.regC_nil, VC.regC_cons, VC.regCK_eq, VC.callQ, VC.tailQ, VC.goCall, VC.chStep]
        refine CALL_of (begins_any A A5 len c c5 k who reg wr val fr to l w5 (hr.below hBw5) hr5 h8 hg.2.1 hk (by omega) hkl (hai k hk)) fun w6 hB6 => ?_
        have hBw6 := hBw5.trans (hB6.mono hBw5.size)
        cases hmay : mayB len reg wr val fr to l k with
        | false =>
          have hgk : g k = none := by rw [← hgd]; simp only []; rw [if_neg (by rw [hmay]; simp)]
          simp -dsimp only [Fa.F83, e5, VC.Now, VC.vc, VC.lib, VC.regQ, VC.loopK, VC.reg, VC.opP, VC.pv, VC.thenF, VC.blkF, VC.retF, VC.resV, VC.oneV, VC.evo, VC.bin, VC.binI, VC.cmpI, VC.arithI, VC.ldv, VC.slv, VC.pickP, VC.holds, VC.chainOf, VC.look, VC.junk, VC.put, VC.eff, VC.callee, VC.pureB, VC.rdK, VC.rdKs, VC.okKs, VC.eqKs, VC.fillL, VC.putL, VC.stW, VC.stOK, VC.mixF, VC.setAll, Nat.reduceAdd, Nat.reduceSub, Nat.reduceMul, if_true, if_false, ↓reduceIte, forall_const, implies_true, reduceCtorEq, ne_eq, Nat.reduceBNe, Nat.reduceBEq, IntKind.signed, Nat.reduceEqDiff, Nat.reduceLeDiff, Nat.reduceLT, eq_self, Int.reduceEq, Int.reduceLT, Int.reduceLE, Int.reduceAdd, Int.reduceSub, VC.regC_nil, VC.regC_cons, VC.regCK_eq, VC.callQ, VC.tailQ, VC.goCall, VC.chStep]
          obtain ⟨m', hm', k', hk', hv', hn'⟩ := nx hgk
          exact ⟨fits_i64_nat (by omega), SAME.intro (by kernel_rfl), m', hm', k', hk', hv', hBw6, hn'⟩
        | true =>
          have hgk : g k = dfs len reg wr val fr to f (l ++ [k]) := by rw [← hgd]; simp only []; rw [if_pos hmay]
          simp -dsimp only [Fa.F83, e5, VC.Now, VC.vc, VC.lib, VC.regQ, VC.loopK, VC.reg, VC.opP, VC.pv, VC.thenF, VC.blkF, VC.retF, VC.resV, VC.oneV, VC.evo, VC.bin, VC.binI, VC.cmpI, VC.arithI, VC.ldv, VC.slv, VC.pickP, VC.holds, VC.chainOf, VC.look, VC.junk, VC.put, VC.eff, VC.callee, VC.pureB, VC.rdK, VC.rdKs, VC.okKs, VC.eqKs, VC.fillL, VC.putL, VC.stW, VC.stOK, VC.mixF, VC.setAll, Nat.reduceAdd, Nat.reduceSub, Nat.reduceMul, if_true, if_false, ↓reduceIte, forall_const, implies_true, reduceCtorEq, ne_eq, Nat.reduceBNe, Nat.reduceBEq, IntKind.signed, Nat.reduceEqDiff, Nat.reduceLeDiff, Nat.reduceLT, eq_self, Int.reduceEq, Int.reduceLT, Int.reduceLE, Int.reduceAdd, Int.reduceSub, VC.regC_nil, VC.regC_cons, VC.regCK_eq, VC.callQ, VC.tailQ, VC.goCall, VC.chStep]
          refine CALL_by (hlong w6 (hl.below hBw6)) ?_
          rintro _ w7 ⟨v7, rfl, hv7, hB7⟩
          refine ⟨_, rfl, ?_⟩
          obtain ⟨A7, c7, rfl, hc7, hr7⟩ := hv7.cap
          rw [hlen5] at hc7 ⊢
          have hBw7 := hBw6.trans (hB7.mono hBw6.size)
          simp -dsimp only [Fa.F83, e5, VC.Now, VC.vc, VC.lib, VC.regQ, VC.loopK, VC.reg, VC.opP, VC.pv, VC.thenF, VC.blkF, VC.retF, VC.resV, VC.oneV, VC.evo, VC.bin, VC.binI, VC.cmpI, VC.arithI, VC.ldv, VC.slv, VC.pickP, VC.holds, VC.chainOf, VC.look, VC.junk, VC.put, VC.eff, VC.callee, VC.pureB, VC.rdK, VC.rdKs, VC.okKs, VC.eqKs, VC.fillL, VC.putL, VC.stW, VC.stOK, VC.mixF, VC.setAll, Nat.reduceAdd, Nat.reduceSub, Nat.reduceMul, if_true, if_false, ↓reduceIte, forall_const, implies_true, reduceCtorEq, ne_eq, Nat.reduceBNe, Nat.reduceBEq, IntKind.signed, Nat.reduceEqDiff, Nat.reduceLeDiff, Nat.reduceLT, eq_self, Int.reduceEq, Int.reduceLT, Int.reduceLE, Int.reduceAdd, Int.reduceSub, VC.regC_nil, VC.regC_cons, VC.regCK_eq, VC.callQ, VC.tailQ, VC.goCall, VC.chStep]
          have hih := ih (l ++ [k]) A7 c7 w7 (by rw [List.length_append, List.length_singleton]; omega) (by rw [List.length_append, List.length_singleton]; omega) (hg.more hk hmay) (hr.below hBw7) hr7
          unfold ListsB at hih
          rw [show (l ++ [k]).length = l.length + 1 from by simp] at hih
          refine CALL_by hih ?_
          rintro _ w8 ⟨v8, rfl, hv8, hB8⟩
          refine ⟨_, rfl, ?_⟩
          have hBw8 := hBw7.trans (hB8.mono hBw7.size)
          cases hD : dfs len reg wr val fr to f (l ++ [k]) with
          | some r =>
            rw [hD] at hv8
            rw [findRange_hit h0 (hgk.trans hD) len hk]
            simp -dsimp only [Fa.F83, Option.isSome_some, VC.Now, VC.vc, VC.lib, VC.regQ, VC.loopK, VC.reg, VC.opP, VC.pv, VC.thenF, VC.blkF, VC.retF, VC.resV, VC.oneV, VC.evo, VC.bin, VC.binI, VC.cmpI, VC.arithI, VC.ldv, VC.slv, VC.pickP, VC.holds, VC.chainOf, VC.look, VC.junk, VC.put, VC.eff, VC.callee, VC.pureB, VC.rdK, VC.rdKs, VC.okKs, VC.eqKs, VC.fillL, VC.putL, VC.stW, VC.stOK, VC.mixF, VC.setAll, Nat.reduceAdd, Nat.reduceSub, Nat.reduceMul, if_true, if_false, ↓reduceIte, forall_const, implies_true, reduceCtorEq, ne_eq, Nat.reduceBNe, Nat.reduceBEq, IntKind.signed, Nat.reduceEqDiff, Nat.reduceLeDiff, Nat.reduceLT, eq_self, Int.reduceEq, Int.reduceLT, Int.reduceLE, Int.reduceAdd, Int.reduceSub, VC.regC_nil, VC.regC_cons, VC.regCK_eq, VC.callQ, VC.tailQ, VC.goCall, VC.chStep]
            exact ⟨_, rfl, hv8, hBw8⟩
          | none =>
            simp -dsimp only [Fa.F83, Option.isSome_none, VC.Now, VC.vc, VC.lib, VC.regQ, VC.loopK, VC.reg, VC.opP, VC.pv, VC.thenF, VC.blkF, VC.retF, VC.resV, VC.oneV, VC.evo, VC.bin, VC.binI, VC.cmpI, VC.arithI, VC.ldv, VC.slv, VC.pickP, VC.holds, VC.chainOf, VC.look, VC.junk, VC.put, VC.eff, VC.callee, VC.pureB, VC.rdK, VC.rdKs, VC.okKs, VC.eqKs, VC.fillL, VC.putL, VC.stW, VC.stOK, VC.mixF, VC.setAll, Nat.reduceAdd, Nat.reduceSub, Nat.reduceMul, if_true, if_false, ↓reduceIte, forall_const, implies_true, reduceCtorEq, ne_eq, Nat.reduceBNe, Nat.reduceBEq, IntKind.signed, Nat.reduceEqDiff, Nat.reduceLeDiff, Nat.reduceLT, eq_self, Int.reduceEq, Int.reduceLT, Int.reduceLE, Int.reduceAdd, Int.reduceSub, VC.regC_nil, VC.regC_cons, VC.regCK_eq, VC.callQ, VC.tailQ, VC.goCall, VC.chStep]
            obtain ⟨m', hm', k', hk', hv', hn'⟩ := nx (hgk.trans hD)
            exact ⟨fits_i64_nat (by omega), SAME.intro (by kernel_rfl), m', hm', k', hk', hv', hBw8, hn'⟩
    · obtain rfl : k = len := by omega
      have e1 : ((k : Int) < k) = False := eq_false (by omega)
      rw [findRange_none h0]
      simp -dsimp only [Fa.F83, e1, VC.Now, VC.vc, VC.lib, VC.regQ, VC.loopK, VC.reg, VC.opP, VC.pv, VC.thenF, VC.blkF, VC.retF, VC.resV, VC.oneV, VC.evo, VC.bin, VC.binI, VC.cmpI, VC.arithI, VC.ldv, VC.slv, VC.pickP, VC.holds, VC.chainOf, VC.look, VC.junk, VC.put, VC.eff, VC.callee, VC.pureB, VC.rdK, VC.rdKs, VC.okKs, VC.eqKs, VC.fillL, VC.putL, VC.stW, VC.stOK, VC.mixF, VC.setAll, Nat.reduceAdd, Nat.reduceSub, Nat.reduceMul, if_true, if_false, ↓reduceIte, forall_const, implies_true, reduceCtorEq, ne_eq, Nat.reduceBNe, Nat.reduceBEq, IntKind.signed, Nat.reduceEqDiff, Nat.reduceLeDiff, Nat.reduceLT, eq_self, Int.reduceEq, Int.reduceLT, Int.reduceLE, Int.reduceAdd, Int.reduceSub, VC.regC_nil, VC.regC_cons, VC.regCK_eq, VC.callQ, VC.tailQ, VC.goCall, VC.chStep]
      exact ⟨_, rfl, rfl, hBx⟩
end Go.Proofs.Ytdcjacloejhmlaa
