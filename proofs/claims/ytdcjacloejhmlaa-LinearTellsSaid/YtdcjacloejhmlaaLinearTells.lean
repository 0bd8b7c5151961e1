/- LinearTells: the law. -/
import Derived.Test.YtdcjacloejhmlaaLin9
import Derived.Test.YtdcjacloejhmlaaLin2D
import Derived.Test.YtdcjacloejhmlaaRefSameI
namespace Go.Proofs.Ytdcjacloejhmlaa
open Go Go.RowKit Go.VC
set_option linter.unusedSimpArgs false
set_option linter.unusedVariables false

theorem hCode_apart {len : Nat} {who reg fr to : Nat → Int} (h : hCode len who reg fr to = 0) {i : Nat} (hi : i < len) : ahead fr to i i = false := by
  unfold hCode at h
  have h8 : ¬ 8 < len := fun h8 => by rw [if_pos h8] at h; cases h
  rw [if_neg h8] at h
  have hz := firstNZ_zero h i hi
  unfold hBad at hz
  have hA : hArg reg fr to i = false := by
    cases hA : hArg reg fr to i with
    | true => rw [if_pos hA] at hz; cases hz
    | false => rfl
  unfold hArg at hA
  simp at hA
  unfold ahead ahB
  simp
  omega

theorem findSome_some {α β : Type} {g : α → Option β} {b : β} : ∀ {xs : List α}, xs.findSome? g = some b → ∃ a ∈ xs, g a = some b
  | [], h => by cases h
  | x :: xs, h => by
    rw [List.findSome?_cons] at h
    cases hx : g x with
    | some y => rw [hx] at h; exact ⟨x, by simp, by rw [hx]; exact h⟩
    | none =>
      rw [hx] at h
      obtain ⟨a, ha, e⟩ := findSome_some h
      exact ⟨a, List.mem_cons_of_mem _ ha, e⟩
theorem dfs_len {len : Nat} {reg : Nat → Int} {wr : Nat → Bool} {val fr to : Nat → Int} : ∀ {f : Nat} {l r : List Nat}, dfs len reg wr val fr to f l = some r → r.length ≤ l.length + f := by
  intro f
  induction f with
  | zero =>
    intro l r h
    unfold dfs at h
    by_cases hf : fullB len to l = true
    · rw [if_pos hf] at h; cases h; omega
    · rw [if_neg hf] at h; cases h
  | succ f ih =>
    intro l r h
    unfold dfs at h
    by_cases hf : fullB len to l = true
    · rw [if_pos hf] at h; cases h; omega
    · rw [if_neg hf] at h
      obtain ⟨i, _, e⟩ := findSome_some h
      by_cases hm : mayB len reg wr val fr to l i = true
      · simp only [hm, if_true] at e
        have := ih e
        rw [List.length_append, List.length_singleton] at this
        omega
      · simp only [hm] at e; cases e
theorem linearRef_any (A : Option Addr) (len c : Nat) (who reg : Nat → Int) (wr : Nat → Bool) (val fr to : Nat → Int) (w : World) (hr : RdO w A len who reg wr val fr to) (h0 : hCode len who reg fr to = 0) :
    Calls Try.prog 35 #[.slice A len c] w fun e w' => ∃ v, e = .returned (.tuple #[v, .bool (dfs len reg wr val fr to len []).isSome]) ∧ OrdV (dfs len reg wr val fr to len []) v w' ∧ Below w.heap.size w w' := by
  obtain ⟨h8, hrg⟩ := hCode_ok h0
  have h := lists_any A len c who reg wr val fr to h8 hrg (fun i hi => hCode_apart h0 hi) len [] none 0 w (by simp) (by simp) (⟨by simp, by simp, fun k hk => absurd hk (by simp)⟩ : GoodL len reg wr val fr to []) hr (fun h => absurd h (by simp))
  unfold ListsB at h
  refine calls_vc (rs := [.tmp 2, .tmp 3]) Fa.mix Try.func35 rfl Try.ntmps35 rfl (by kernel_rfl) (Nat.le_of_ble_eq_true rfl) ?_
  simp -dsimp only [Fa.F35, VC.Now, VC.vc, VC.lib, VC.regQ, VC.loopK, VC.reg, VC.opP, VC.pv, VC.thenF, VC.blkF, VC.retF, VC.resV, VC.oneV, VC.evo, VC.bin, VC.binI, VC.cmpI, VC.arithI, VC.ldv, VC.slv, VC.pickP, VC.holds, VC.chainOf, VC.look, VC.junk, VC.put, VC.eff, VC.callee, VC.pureB, VC.rdK, VC.rdKs, VC.okKs, VC.eqKs, VC.fillL, VC.putL, VC.stW, VC.stOK, VC.mixF, VC.setAll, Nat.reduceAdd, Nat.reduceSub, Nat.reduceMul, if_true, if_false, ↓reduceIte, forall_const, implies_true, reduceCtorEq, ne_eq, Nat.reduceBNe, Nat.reduceBEq, IntKind.signed, Nat.reduceEqDiff, Nat.reduceLeDiff, Nat.reduceLT, eq_self, Int.reduceEq, Int.reduceLT, Int.reduceLE, Int.reduceAdd, Int.reduceSub, VC.regC_nil, VC.regC_cons, VC.regCK_eq, VC.callQ, VC.tailQ, VC.goCall, VC.chStep]
  refine CALL_by h ?_
  rintro _ w1 ⟨v, rfl, hv, hB⟩
  refine ⟨_, rfl, ?_⟩
  simp -dsimp only [Fa.F35, VC.Now, VC.vc, VC.lib, VC.regQ, VC.loopK, VC.reg, VC.opP, VC.pv, VC.thenF, VC.blkF, VC.retF, VC.resV, VC.oneV, VC.evo, VC.bin, VC.binI, VC.cmpI, VC.arithI, VC.ldv, VC.slv, VC.pickP, VC.holds, VC.chainOf, VC.look, VC.junk, VC.put, VC.eff, VC.callee, VC.pureB, VC.rdK, VC.rdKs, VC.okKs, VC.eqKs, VC.fillL, VC.putL, VC.stW, VC.stOK, VC.mixF, VC.setAll, Nat.reduceAdd, Nat.reduceSub, Nat.reduceMul, if_true, if_false, ↓reduceIte, forall_const, implies_true, reduceCtorEq, ne_eq, Nat.reduceBNe, Nat.reduceBEq, IntKind.signed, Nat.reduceEqDiff, Nat.reduceLeDiff, Nat.reduceLT, eq_self, Int.reduceEq, Int.reduceLT, Int.reduceLE, Int.reduceAdd, Int.reduceSub, VC.regC_nil, VC.regC_cons, VC.regCK_eq, VC.callQ, VC.tailQ, VC.goCall, VC.chStep]
  exact ⟨_, rfl, hv, hB⟩

/-- A list in memory, whatever it is. -/
theorem OrdV.form {r : Option (List Nat)} {v : Value} {w : World} (h : OrdV r v w) : ∃ A c, v = .slice A (r.getD []).length c ∧ Rd w A ((intL (r.getD [])).map (Value.int .i64)) := by
  cases r with
  | none => exact ⟨none, 0, h, fun h => absurd h (by simp)⟩
  | some l => exact h

set_option maxRecDepth 8000 in
set_option maxHeartbeats 2000000 in
/-- The law. -/
theorem linearTells_walk (A : Option Addr) (len cap : Nat) (w : World) (r : ArgS w A len 6 [.i .i64, .i .i64, .b, .i .i64, .i .i64, .i .i64]) (hl : len ≤ cap) (hm : cap ≤ maxLen) :
    Calls Try.prog 9 #[.slice A len cap] w fun e w' => e = .returned (.bool true) ∧ Below w.heap.size w w' := by
  obtain ⟨who, reg, wr, val, fr, to, hr⟩ := RdO.of_arg r
  generalize hcd : hCode len who reg fr to = cd
  refine calls_vc (rs := [.tmp 2]) Fa.mix Try.func9 rfl Try.ntmps9 rfl (by kernel_rfl) (Nat.le_of_ble_eq_true rfl) ?_
  simp -dsimp only [Fa.F9, VC.Now, VC.vc, VC.lib, VC.regQ, VC.loopK, VC.reg, VC.opP, VC.pv, VC.thenF, VC.blkF, VC.retF, VC.resV, VC.oneV, VC.evo, VC.bin, VC.binI, VC.cmpI, VC.arithI, VC.ldv, VC.slv, VC.pickP, VC.holds, VC.chainOf, VC.look, VC.junk, VC.put, VC.eff, VC.callee, VC.pureB, VC.rdK, VC.rdKs, VC.okKs, VC.eqKs, VC.fillL, VC.putL, VC.stW, VC.stOK, VC.mixF, VC.setAll, Nat.reduceAdd, Nat.reduceSub, Nat.reduceMul, if_true, if_false, ↓reduceIte, forall_const, implies_true, reduceCtorEq, ne_eq, Nat.reduceBNe, Nat.reduceBEq, IntKind.signed, Nat.reduceEqDiff, Nat.reduceLeDiff, Nat.reduceLT, eq_self, Int.reduceEq, Int.reduceLT, Int.reduceLE, Int.reduceAdd, Int.reduceSub, VC.regC_nil, VC.regC_cons, VC.regCK_eq, VC.callQ, VC.tailQ, VC.goCall, VC.chStep]
  refine CALL_by (linear_any A len cap who reg wr val fr to w hr) ?_
  rw [hcd]
  rintro _ w1 ⟨v, b, rfl, hbad, hok, hB1⟩
  refine ⟨_, rfl, ?_⟩
  by_cases h0 : cd = 0
  · subst h0
    obtain ⟨rfl, hv⟩ := hok rfl
    generalize hD : dfs len reg wr val fr to len [] = D at hv
    obtain ⟨A1, c1, rfl, hv1⟩ := OrdV.form hv
    simp -dsimp only [Fa.F9, VC.Now, VC.vc, VC.lib, VC.regQ, VC.loopK, VC.reg, VC.opP, VC.pv, VC.thenF, VC.blkF, VC.retF, VC.resV, VC.oneV, VC.evo, VC.bin, VC.binI, VC.cmpI, VC.arithI, VC.ldv, VC.slv, VC.pickP, VC.holds, VC.chainOf, VC.look, VC.junk, VC.put, VC.eff, VC.callee, VC.pureB, VC.rdK, VC.rdKs, VC.okKs, VC.eqKs, VC.fillL, VC.putL, VC.stW, VC.stOK, VC.mixF, VC.setAll, Nat.reduceAdd, Nat.reduceSub, Nat.reduceMul, if_true, if_false, ↓reduceIte, forall_const, implies_true, reduceCtorEq, ne_eq, Nat.reduceBNe, Nat.reduceBEq, IntKind.signed, Nat.reduceEqDiff, Nat.reduceLeDiff, Nat.reduceLT, eq_self, Int.reduceEq, Int.reduceLT, Int.reduceLE, Int.reduceAdd, Int.reduceSub, VC.regC_nil, VC.regC_cons, VC.regCK_eq, VC.callQ, VC.tailQ, VC.goCall, VC.chStep]
    refine CALL_of (checkD_any A len cap who reg wr val fr to w1 (hr.below hB1)) fun w2 hB2 => ?_
    rw [hcd]
    have hBw2 := hB1.trans (hB2.mono hB1.size)
    simp -dsimp only [Fa.F9, VC.Now, VC.vc, VC.lib, VC.regQ, VC.loopK, VC.reg, VC.opP, VC.pv, VC.thenF, VC.blkF, VC.retF, VC.resV, VC.oneV, VC.evo, VC.bin, VC.binI, VC.cmpI, VC.arithI, VC.ldv, VC.slv, VC.pickP, VC.holds, VC.chainOf, VC.look, VC.junk, VC.put, VC.eff, VC.callee, VC.pureB, VC.rdK, VC.rdKs, VC.okKs, VC.eqKs, VC.fillL, VC.putL, VC.stW, VC.stOK, VC.mixF, VC.setAll, Nat.reduceAdd, Nat.reduceSub, Nat.reduceMul, if_true, if_false, ↓reduceIte, forall_const, implies_true, reduceCtorEq, ne_eq, Nat.reduceBNe, Nat.reduceBEq, IntKind.signed, Nat.reduceEqDiff, Nat.reduceLeDiff, Nat.reduceLT, eq_self, Int.reduceEq, Int.reduceLT, Int.reduceLE, Int.reduceAdd, Int.reduceSub, VC.regC_nil, VC.regC_cons, VC.regCK_eq, VC.callQ, VC.tailQ, VC.goCall, VC.chStep]
    refine CALL_by (linearRef_any A len cap who reg wr val fr to w2 (hr.below hBw2) hcd) ?_
    rw [hD]
    rintro _ w3 ⟨v3, rfl, hv3, hB3⟩
    refine ⟨_, rfl, ?_⟩
    have hBw3 := hBw2.trans (hB3.mono hBw2.size)
    obtain ⟨A3, c3, rfl, hr3⟩ := OrdV.form hv3
    have hlen : (intL (D.getD [])).length = (D.getD []).length := by simp
    have hrl : (D.getD []).length ≤ len := by
      cases hDD : D with
      | none => simp
      | some r => exact Nat.le_trans (dfs_len (hD.trans hDD)) (by simp)
    obtain ⟨h8, _⟩ := hCode_ok hcd
    have hcall := ints_any A1 A3 c1 c3 (intL (D.getD [])) (intL (D.getD [])) w3 ((hv1.below hB2).below hB3) hr3 (by omega) (by omega)
    rw [hlen] at hcall
    have hbb : (D.isSome == D.isSome) = true := beq_self_eq_true _
    simp -dsimp only [Fa.F9, hbb, VC.Now, VC.vc, VC.lib, VC.regQ, VC.loopK, VC.reg, VC.opP, VC.pv, VC.thenF, VC.blkF, VC.retF, VC.resV, VC.oneV, VC.evo, VC.bin, VC.binI, VC.cmpI, VC.arithI, VC.ldv, VC.slv, VC.pickP, VC.holds, VC.chainOf, VC.look, VC.junk, VC.put, VC.eff, VC.callee, VC.pureB, VC.rdK, VC.rdKs, VC.okKs, VC.eqKs, VC.fillL, VC.putL, VC.stW, VC.stOK, VC.mixF, VC.setAll, Nat.reduceAdd, Nat.reduceSub, Nat.reduceMul, if_true, if_false, ↓reduceIte, forall_const, implies_true, reduceCtorEq, ne_eq, Nat.reduceBNe, Nat.reduceBEq, IntKind.signed, Nat.reduceEqDiff, Nat.reduceLeDiff, Nat.reduceLT, eq_self, Int.reduceEq, Int.reduceLT, Int.reduceLE, Int.reduceAdd, Int.reduceSub, VC.regC_nil, VC.regC_cons, VC.regCK_eq, VC.callQ, VC.tailQ, VC.goCall, VC.chStep]
    refine CALL_of hcall fun w4 hB4 => ?_
    simp -dsimp only [Fa.F9, hbb, VC.Now, VC.vc, VC.lib, VC.regQ, VC.loopK, VC.reg, VC.opP, VC.pv, VC.thenF, VC.blkF, VC.retF, VC.resV, VC.oneV, VC.evo, VC.bin, VC.binI, VC.cmpI, VC.arithI, VC.ldv, VC.slv, VC.pickP, VC.holds, VC.chainOf, VC.look, VC.junk, VC.put, VC.eff, VC.callee, VC.pureB, VC.rdK, VC.rdKs, VC.okKs, VC.eqKs, VC.fillL, VC.putL, VC.stW, VC.stOK, VC.mixF, VC.setAll, Nat.reduceAdd, Nat.reduceSub, Nat.reduceMul, if_true, if_false, ↓reduceIte, forall_const, implies_true, reduceCtorEq, ne_eq, Nat.reduceBNe, Nat.reduceBEq, IntKind.signed, Nat.reduceEqDiff, Nat.reduceLeDiff, Nat.reduceLT, eq_self, Int.reduceEq, Int.reduceLT, Int.reduceLE, Int.reduceAdd, Int.reduceSub, VC.regC_nil, VC.regC_cons, VC.regCK_eq, VC.callQ, VC.tailQ, VC.goCall, VC.chStep]
    exact hBw3.trans (hB4.mono hBw3.size)
  · obtain ⟨rfl, rfl⟩ := hbad h0
    have e0 : (cd = 0) = False := eq_false h0
    simp -dsimp only [Fa.F9, VC.Now, VC.vc, VC.lib, VC.regQ, VC.loopK, VC.reg, VC.opP, VC.pv, VC.thenF, VC.blkF, VC.retF, VC.resV, VC.oneV, VC.evo, VC.bin, VC.binI, VC.cmpI, VC.arithI, VC.ldv, VC.slv, VC.pickP, VC.holds, VC.chainOf, VC.look, VC.junk, VC.put, VC.eff, VC.callee, VC.pureB, VC.rdK, VC.rdKs, VC.okKs, VC.eqKs, VC.fillL, VC.putL, VC.stW, VC.stOK, VC.mixF, VC.setAll, Nat.reduceAdd, Nat.reduceSub, Nat.reduceMul, if_true, if_false, ↓reduceIte, forall_const, implies_true, reduceCtorEq, ne_eq, Nat.reduceBNe, Nat.reduceBEq, IntKind.signed, Nat.reduceEqDiff, Nat.reduceLeDiff, Nat.reduceLT, eq_self, Int.reduceEq, Int.reduceLT, Int.reduceLE, Int.reduceAdd, Int.reduceSub, VC.regC_nil, VC.regC_cons, VC.regCK_eq, VC.callQ, VC.tailQ, VC.goCall, VC.chStep]
    refine CALL_of (checkD_any A len cap who reg wr val fr to w1 (hr.below hB1)) fun w2 hB2 => ?_
    rw [hcd]
    have hBw2 := hB1.trans (hB2.mono hB1.size)
    simp -dsimp only [Fa.F9, e0, VC.Now, VC.vc, VC.lib, VC.regQ, VC.loopK, VC.reg, VC.opP, VC.pv, VC.thenF, VC.blkF, VC.retF, VC.resV, VC.oneV, VC.evo, VC.bin, VC.binI, VC.cmpI, VC.arithI, VC.ldv, VC.slv, VC.pickP, VC.holds, VC.chainOf, VC.look, VC.junk, VC.put, VC.eff, VC.callee, VC.pureB, VC.rdK, VC.rdKs, VC.okKs, VC.eqKs, VC.fillL, VC.putL, VC.stW, VC.stOK, VC.mixF, VC.setAll, Nat.reduceAdd, Nat.reduceSub, Nat.reduceMul, if_true, if_false, ↓reduceIte, forall_const, implies_true, reduceCtorEq, ne_eq, Nat.reduceBNe, Nat.reduceBEq, IntKind.signed, Nat.reduceEqDiff, Nat.reduceLeDiff, Nat.reduceLT, eq_self, Int.reduceEq, Int.reduceLT, Int.reduceLE, Int.reduceAdd, Int.reduceSub, VC.regC_nil, VC.regC_cons, VC.regCK_eq, VC.callQ, VC.tailQ, VC.goCall, VC.chStep]
    exact ⟨by simp, hBw2⟩
end Go.Proofs.Ytdcjacloejhmlaa
