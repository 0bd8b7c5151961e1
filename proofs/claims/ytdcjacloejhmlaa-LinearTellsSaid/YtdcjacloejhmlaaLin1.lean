/- Histories: ops that come in; which is ahead of which. -/
import Derived.Test.YtdcjacloejhmlaaRd3
import Derived.Test.YtdcjacloejhmlaaBox
import Derived.Test.YtdcjacloejhmlaaSeqCut
namespace Go.VC
open Go Go.RowKit
set_option linter.unusedSimpArgs false
set_option linter.unusedVariables false
/-- Ops that came in. -/
def RdO (w : World) (A : Option Addr) (n : Nat) (who reg : Nat → Int) (wr : Nat → Bool) (val fr to : Nat → Int) : Prop :=
  0 < n → ∃ b o, A = some ⟨b, o, none⟩ ∧ b < w.heap.size ∧ ∀ i, i < n → (w.cell? ⟨b, o + i * 6, none⟩ = some (.int .i64 (who i)) ∧ w.cell? ⟨b, o + i * 6 + 1, none⟩ = some (.int .i64 (reg i)) ∧ w.cell? ⟨b, o + i * 6 + 2, none⟩ = some (.bool (wr i)) ∧
    w.cell? ⟨b, o + i * 6 + 3, none⟩ = some (.int .i64 (val i)) ∧ w.cell? ⟨b, o + i * 6 + 4, none⟩ = some (.int .i64 (fr i)) ∧ w.cell? ⟨b, o + i * 6 + 5, none⟩ = some (.int .i64 (to i)))
theorem RdO.of_arg {w : World} {A : Option Addr} {n : Nat} (h : ArgS w A n 6 [.i .i64, .i .i64, .b, .i .i64, .i .i64, .i .i64]) : ∃ who reg wr val fr to, RdO w A n who reg wr val fr to := by
  by_cases h0 : 0 < n
  · obtain ⟨b, o, rfl, hb, hc⟩ := h h0
    refine ⟨fun i => rdI w ⟨b, o + i * 6, none⟩, fun i => rdI w ⟨b, o + i * 6 + 1, none⟩, fun i => rdB w ⟨b, o + i * 6 + 2, none⟩, fun i => rdI w ⟨b, o + i * 6 + 3, none⟩, fun i => rdI w ⟨b, o + i * 6 + 4, none⟩, fun i => rdI w ⟨b, o + i * 6 + 5, none⟩, fun _ => ⟨b, o, rfl, hb, fun i hi => ?_⟩⟩
    exact ⟨(hc i hi 0 _ rfl).1, (hc i hi 1 _ rfl).1, (hc i hi 2 _ rfl).1, (hc i hi 3 _ rfl).1, (hc i hi 4 _ rfl).1, (hc i hi 5 _ rfl).1⟩
  · exact ⟨fun _ => 0, fun _ => 0, fun _ => false, fun _ => 0, fun _ => 0, fun _ => 0, fun h => absurd h h0⟩
theorem RdO.below {w w' : World} {A : Option Addr} {n : Nat} {who reg : Nat → Int} {wr : Nat → Bool} {val fr to : Nat → Int} (h : RdO w A n who reg wr val fr to) (hb : Below w.heap.size w w') : RdO w' A n who reg wr val fr to := by
  intro h0
  obtain ⟨b, o, rfl, hlt, hc⟩ := h h0
  refine ⟨b, o, rfl, Nat.lt_of_lt_of_le hlt hb.size, fun i hi => ?_⟩
  obtain ⟨h1, h2, h3, h4, h5, h6⟩ := hc i hi
  exact ⟨(hb.cell (p := ⟨b, _, none⟩) hlt).trans h1, (hb.cell (p := ⟨b, _, none⟩) hlt).trans h2, (hb.cell (p := ⟨b, _, none⟩) hlt).trans h3, (hb.cell (p := ⟨b, _, none⟩) hlt).trans h4, (hb.cell (p := ⟨b, _, none⟩) hlt).trans h5, (hb.cell (p := ⟨b, _, none⟩) hlt).trans h6⟩
end Go.VC
namespace Go.Proofs.Ytdcjacloejhmlaa
open Go Go.RowKit Go.VC
set_option linter.unusedSimpArgs false
set_option linter.unusedVariables false

abbrev opC (a b : Int) (c : Bool) (d e f : Int) : List Value := [.int .i64 a, .int .i64 b, .bool c, .int .i64 d, .int .i64 e, .int .i64 f]
def ahB (to fr : Int) : Bool := decide (0 ≤ to) && decide (to < fr)
def ahead (fr to : Nat → Int) (i j : Nat) : Bool := ahB (to i) (fr j)

set_option maxRecDepth 8000 in
set_option maxHeartbeats 1000000 in
theorem ahead_any (a1 b1 : Int) (c1 : Bool) (d1 e1 f1 a2 b2 : Int) (c2 : Bool) (d2 e2 f2 : Int) (w : World) :
    Calls Try.prog 110 #[.agg (opC a1 b1 c1 d1 e1 f1).toArray, .agg (opC a2 b2 c2 d2 e2 f2).toArray] w fun e w' => e = .returned (.bool (ahB f1 e2)) ∧ Below w.heap.size w w' := by
  have x1 : ((w.alloc (.cells (opC a1 b1 c1 d1 e1 f1).toArray 161)).alloc (.cells (opC a2 b2 c2 d2 e2 f2).toArray 161)).cell? ⟨w.heap.size, 5, none⟩ = some (.int .i64 f1) := by rw [World.cell?_alloc_past _ _ _ (by simp), cell_new rfl]; rfl
  have x2 : ((w.alloc (.cells (opC a1 b1 c1 d1 e1 f1).toArray 161)).alloc (.cells (opC a2 b2 c2 d2 e2 f2).toArray 161)).cell? ⟨w.heap.size + 1, 4, none⟩ = some (.int .i64 e2) := by rw [cell_new (by simp)]; rfl
  have hB : Below w.heap.size w ((w.alloc (.cells (opC a1 b1 c1 d1 e1 f1).toArray 161)).alloc (.cells (opC a2 b2 c2 d2 e2 f2).toArray 161)) := below_box (below_box (Below.refl _ _) _) _
  refine calls_vc (rs := [.tmp 4]) Fa.mix Try.func110 rfl Try.ntmps110 rfl (by kernel_rfl) (Nat.le_of_ble_eq_true rfl) ?_
  simp -dsimp only [Fa.F110, rdI_of x1, x1, rdI_of x2, x2, VC.Now, VC.vc, VC.lib, VC.regQ, VC.loopK, VC.reg, VC.opP, VC.pv, VC.thenF, VC.blkF, VC.retF, VC.resV, VC.oneV, VC.evo, VC.bin, VC.binI, VC.cmpI, VC.arithI, VC.ldv, VC.slv, VC.pickP, VC.holds, VC.chainOf, VC.look, VC.junk, VC.put, VC.eff, VC.callee, VC.pureB, VC.rdK, VC.rdKs, VC.okKs, VC.eqKs, VC.fillL, VC.putL, VC.stW, VC.stOK, VC.mixF, VC.setAll, Nat.reduceAdd, Nat.reduceSub, Nat.reduceMul, if_true, if_false, ↓reduceIte, forall_const, implies_true, reduceCtorEq, ne_eq, Nat.reduceBNe, Nat.reduceBEq, IntKind.signed, Nat.reduceEqDiff, Nat.reduceLeDiff, Nat.reduceLT, eq_self, Int.reduceEq, Int.reduceLT, Int.reduceLE, Int.reduceAdd, Int.reduceSub, VC.regC_nil, VC.regC_cons, VC.regCK_eq, VC.callQ, VC.tailQ, VC.goCall, VC.chStep]
  try intro u9
  exact ⟨rfl, hB⟩
set_option maxRecDepth 8000 in
set_option maxHeartbeats 1000000 in
theorem aheadRef_any (a1 b1 : Int) (c1 : Bool) (d1 e1 f1 a2 b2 : Int) (c2 : Bool) (d2 e2 f2 : Int) (w : World) :
    Calls Try.prog 82 #[.agg (opC a1 b1 c1 d1 e1 f1).toArray, .agg (opC a2 b2 c2 d2 e2 f2).toArray] w fun e w' => e = .returned (.bool (ahB f1 e2)) ∧ Below w.heap.size w w' := by
  have x1 : ((w.alloc (.cells (opC a1 b1 c1 d1 e1 f1).toArray 161)).alloc (.cells (opC a2 b2 c2 d2 e2 f2).toArray 161)).cell? ⟨w.heap.size, 5, none⟩ = some (.int .i64 f1) := by rw [World.cell?_alloc_past _ _ _ (by simp), cell_new rfl]; rfl
  have x2 : ((w.alloc (.cells (opC a1 b1 c1 d1 e1 f1).toArray 161)).alloc (.cells (opC a2 b2 c2 d2 e2 f2).toArray 161)).cell? ⟨w.heap.size + 1, 4, none⟩ = some (.int .i64 e2) := by rw [cell_new (by simp)]; rfl
  have hB : Below w.heap.size w ((w.alloc (.cells (opC a1 b1 c1 d1 e1 f1).toArray 161)).alloc (.cells (opC a2 b2 c2 d2 e2 f2).toArray 161)) := below_box (below_box (Below.refl _ _) _) _
  refine calls_vc (rs := [.tmp 4]) Fa.mix Try.func82 rfl Try.ntmps82 rfl (by kernel_rfl) (Nat.le_of_ble_eq_true rfl) ?_
  simp -dsimp only [Fa.F82, rdI_of x1, x1, rdI_of x2, x2, VC.Now, VC.vc, VC.lib, VC.regQ, VC.loopK, VC.reg, VC.opP, VC.pv, VC.thenF, VC.blkF, VC.retF, VC.resV, VC.oneV, VC.evo, VC.bin, VC.binI, VC.cmpI, VC.arithI, VC.ldv, VC.slv, VC.pickP, VC.holds, VC.chainOf, VC.look, VC.junk, VC.put, VC.eff, VC.callee, VC.pureB, VC.rdK, VC.rdKs, VC.okKs, VC.eqKs, VC.fillL, VC.putL, VC.stW, VC.stOK, VC.mixF, VC.setAll, Nat.reduceAdd, Nat.reduceSub, Nat.reduceMul, if_true, if_false, ↓reduceIte, forall_const, implies_true, reduceCtorEq, ne_eq, Nat.reduceBNe, Nat.reduceBEq, IntKind.signed, Nat.reduceEqDiff, Nat.reduceLeDiff, Nat.reduceLT, eq_self, Int.reduceEq, Int.reduceLT, Int.reduceLE, Int.reduceAdd, Int.reduceSub, VC.regC_nil, VC.regC_cons, VC.regCK_eq, VC.callQ, VC.tailQ, VC.goCall, VC.chStep]
  try intro u9
  exact ⟨rfl, hB⟩

def hArg (reg fr to : Nat → Int) (i : Nat) : Bool := decide (reg i < 0) || decide (4 ≤ reg i) || decide (fr i < 0) || (!decide (to i = -1) && decide (to i ≤ fr i))
def hTwo (who fr to : Nat → Int) (i j : Nat) : Bool := !decide ((i : Int) = j) && decide (who i = who j) && !ahead fr to i j && !ahead fr to j i
def hBad (len : Nat) (who reg fr to : Nat → Int) (i : Nat) : Int := if hArg reg fr to i = true then 2 else if (List.range len).any (hTwo who fr to i) = true then 3 else 0
open Classical in
noncomputable def hCode (len : Nat) (who reg fr to : Nat → Int) : Int := if 8 < len then 1 else firstNZ (hBad len who reg fr to) len
end Go.Proofs.Ytdcjacloejhmlaa
