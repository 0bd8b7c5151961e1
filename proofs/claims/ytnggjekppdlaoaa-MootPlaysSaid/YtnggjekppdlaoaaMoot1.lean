/- An assembly in memory; what only reads it. -/
import Derived.Test.YtnggjekppdlaoaaMootPlain
import Derived.Test.YtnggjekppdlaoaaTail
namespace Go.Proofs.Ytnggjekppdlaoaa
open Go Go.RowKit Go.VC
set_option linter.unusedSimpArgs false
set_option linter.unusedVariables false

theorem laidOut : laidOutB Try.prog = true := by kernel_rfl
noncomputable abbrev EG : KE Try.prog 212 (Int × Int × Int) := KE.three laidOut (by kernel_rfl)
noncomputable abbrev EW : KE Try.prog 213 (Int × Int) := KE.two laidOut (by kernel_rfl)

/-- The cells of n blocks. -/
def blkC (p r : Nat → Int) : Nat → List Value
  | 0 => []
  | n + 1 => blkC p r n ++ [.int .i64 (p n), .int .i64 (r n)]
theorem blkC_length (p r : Nat → Int) : ∀ n, (blkC p r n).length = n * 2
  | 0 => rfl
  | n + 1 => by rw [blkC, List.length_append, blkC_length p r n]; show n * 2 + 2 = _; omega
theorem blkC_at (p r : Nat → Int) {a : Nat} : ∀ {n : Nat}, a < n → (blkC p r n)[a * 2]? = some (.int .i64 (p a)) ∧ (blkC p r n)[a * 2 + 1]? = some (.int .i64 (r a))
  | n + 1, h => by
    have hl := blkC_length p r n
    rw [blkC]
    by_cases e : a = n
    · subst e
      rw [List.getElem?_append_right (by omega), List.getElem?_append_right (by omega), hl, Nat.sub_self, show a * 2 + 1 - a * 2 = 1 by omega]
      exact ⟨rfl, rfl⟩
    · rw [List.getElem?_append_left (by omega), List.getElem?_append_left (by omega)]
      exact blkC_at p r (show a < n by omega)
theorem blkC_congr {p r p' r' : Nat → Int} : ∀ {n : Nat}, (∀ i, i < n → p i = p' i ∧ r i = r' i) → blkC p r n = blkC p' r' n
  | 0, _ => rfl
  | n + 1, h => by
    rw [blkC, blkC, blkC_congr fun i hi => h i (by omega), (h n (by omega)).1, (h n (by omega)).2]
open Classical in
noncomputable def lateM (s : MS) (k : Int × Int × Int) : Option Value := if s.lt k then some (.int .i64 1) else none
def gaveM (s : MS) (k : Int × Int) : Option Value := if s.gc k = 0 then none else some (.int .i64 (s.gc k))
abbrev memC (s : MS) (a : Nat) : List Value := [.int .i64 (s.vd a), .int .i64 (s.kn a)]
abbrev votC (s : MS) : List Value := (List.range s.nb).map fun a => .int .u32 (s.vm a)
/-- Where an assembly lies. -/
structure MA where
  mb : Nat
  gm : Nat
  bl : Nat
  bg : Nat
  nl : Nat
  ng : Nat
  vb : Value
  vv : Value
abbrev mootC (n need liars : Nat) (a : MA) : List Value := [.int .i64 n, .int .i64 need, .int .u32 liars, a.vb, a.vv, .slice (some ⟨a.gm, 0, none⟩) n n, .map (some a.bl), .map (some a.bg)]
noncomputable abbrev MObs (n need liars : Nat) (a : MA) (s : MS) : List Ob :=
  [oBox a.mb (mootC n need liars a), oOwn 116 2 s.nb a.vb (blkC s.p s.r s.nb), oOwn 33 1 s.nb a.vv (votC s),
   oRecs a.gm n 2 (memC s), oMap EG a.bl a.nl (lateM s), oMap EW a.bg a.ng (gaveM s)]
section
variable {B n need liars t : Nat} {a : MA} {s : MS} {w : World}
theorem mo_blk (h : Hp B (MObs n need liars a s) w) (h0 : 0 < s.nb) : ∃ g c, a.vb = .slice (some ⟨g, 0, none⟩) s.nb c ∧ g < w.heap.size ∧ ∀ b, b < s.nb → w.cell? ⟨g, b * 2, none⟩ = some (.int .i64 (s.p b)) ∧ w.cell? ⟨g, b * 2 + 1, none⟩ = some (.int .i64 (s.r b)) := by
  have ho : OwnK w 0 116 2 s.nb a.vb (blkC s.p s.r s.nb) := h.get 1 rfl
  obtain ⟨g, c, e, _, hg⟩ := ho.form h0
  rw [e] at ho
  refine ⟨g, c, e, hg, fun b hb => ?_⟩
  obtain ⟨h1, h2⟩ := blkC_at s.p s.r hb
  exact ⟨(ho.at (by omega)).1.trans h1, (ho.at (by omega)).1.trans h2⟩
theorem mo_vot (h : Hp B (MObs n need liars a s) w) (h0 : 0 < s.nb) : ∃ g c, a.vv = .slice (some ⟨g, 0, none⟩) s.nb c ∧ g < w.heap.size ∧ ∀ b, b < s.nb → w.cell? ⟨g, b, none⟩ = some (.int .u32 (s.vm b)) ∧ w.frozen? ⟨g, b, none⟩ = false := by
  have ho : OwnK w 0 33 1 s.nb a.vv (votC s) := h.get 2 rfl
  obtain ⟨g, c, e, _, hg⟩ := ho.form h0
  rw [e] at ho
  refine ⟨g, c, e, hg, fun b hb => ?_⟩
  obtain ⟨h1, h2⟩ := ho.at (j := b) (by omega)
  exact ⟨h1.trans (by simp [votC, hb]), h2⟩
theorem mo_box (h : Hp B (MObs n need liars a s) w) : Box w a.mb (mootC n need liars a) := h.get 0 rfl
theorem mo_mem (h : Hp B (MObs n need liars a s) w) {i : Nat} (hi : i < n) : w.cell? ⟨a.gm, i * 2, none⟩ = some (.int .i64 (s.vd i)) ∧ w.cell? ⟨a.gm, i * 2 + 1, none⟩ = some (.int .i64 (s.kn i)) ∧ w.frozen? ⟨a.gm, i * 2, none⟩ = false ∧ w.frozen? ⟨a.gm, i * 2 + 1, none⟩ = false := by
  have ho : Recs w a.gm n 2 (memC s) := h.get 3 rfl
  exact ⟨ho.at (j := 0) hi (by omega) rfl, ho.at (j := 1) hi (by omega) rfl, ho.soft (j := 0) hi (by omega), ho.soft (j := 1) hi (by omega)⟩

theorem lies_any (h : Hp B (MObs n need liars a s) w) (hl : liars < 4294967296) {i : Nat} (hi : i < 32) :
    Calls Try.prog 93 #[.pointer (some ⟨a.mb, 0, none⟩), .int .i64 i] w fun e w' => e = .returned (.bool (liars.testBit i)) ∧ Below w.heap.size w w' := by
  have b2 := (mo_box h).at (i := 2) rfl
  refine calls_vc (rs := [.tmp 4]) Fa.mix Try.func93 rfl Try.ntmps93 rfl (by kernel_rfl) (Nat.le_of_ble_eq_true rfl) ?_
  simp -dsimp only [Fa.F93, rdI_of b2, b2, VC.Now, VC.vc, VC.lib, VC.regQ, VC.loopK, VC.reg, VC.opP, VC.pv, VC.thenF, VC.blkF, VC.retF, VC.resV, VC.oneV, VC.evo, VC.bin, VC.binI, VC.cmpI, VC.arithI, VC.ldv, VC.slv, VC.pickP, VC.holds, VC.chainOf, VC.look, VC.junk, VC.put, VC.eff, VC.callee, VC.pureB, VC.rdK, VC.rdKs, VC.okKs, VC.eqKs, VC.fillL, VC.putL, VC.stW, VC.stOK, VC.mixF, VC.setAll, Nat.reduceAdd, Nat.reduceSub, Nat.reduceMul, if_true, if_false, ↓reduceIte, forall_const, implies_true, reduceCtorEq, ne_eq, Nat.reduceBNe, Nat.reduceBEq, IntKind.signed, Nat.reduceEqDiff, Nat.reduceLeDiff, Nat.reduceLT, eq_self, Int.reduceEq, Int.reduceLT, Int.reduceLE, Int.reduceAdd, Int.reduceSub, VC.regC_nil, VC.regC_cons, VC.regCK_eq, VC.callQ, VC.tailQ, VC.goCall, VC.chStep]
  refine ⟨by omega, ?_, Below.refl _ _⟩
  rw [shr_and hl hi]
  cases liars.testBit i <;> rfl

theorem isblk_any (h : Hp B (MObs n need liars a s) w) (hok : MOK n t s) (b : Int) :
    Calls Try.prog 92 #[.pointer (some ⟨a.mb, 0, none⟩), .int .i64 b] w fun e w' => e = .returned (.bool (decide (0 ≤ b) && decide (b < s.nb))) ∧ Below w.heap.size w w' := by
  obtain ⟨g, c, e, hg, _⟩ := mo_blk h hok.nb0
  have b3 := (mo_box h).at (i := 3) rfl
  rw [e] at b3
  refine calls_vc (rs := [.tmp 4]) Fa.mix Try.func92 rfl Try.ntmps92 rfl (by kernel_rfl) (Nat.le_of_ble_eq_true rfl) ?_
  simp -dsimp only [Fa.F92, rdSA_of b3, rdSN_of b3, rdSC_of b3, b3, VC.Now, VC.vc, VC.lib, VC.regQ, VC.loopK, VC.reg, VC.opP, VC.pv, VC.thenF, VC.blkF, VC.retF, VC.resV, VC.oneV, VC.evo, VC.bin, VC.binI, VC.cmpI, VC.arithI, VC.ldv, VC.slv, VC.pickP, VC.holds, VC.chainOf, VC.look, VC.junk, VC.put, VC.eff, VC.callee, VC.pureB, VC.rdK, VC.rdKs, VC.okKs, VC.eqKs, VC.fillL, VC.putL, VC.stW, VC.stOK, VC.mixF, VC.setAll, Nat.reduceAdd, Nat.reduceSub, Nat.reduceMul, if_true, if_false, ↓reduceIte, forall_const, implies_true, reduceCtorEq, ne_eq, Nat.reduceBNe, Nat.reduceBEq, IntKind.signed, Nat.reduceEqDiff, Nat.reduceLeDiff, Nat.reduceLT, eq_self, Int.reduceEq, Int.reduceLT, Int.reduceLE, Int.reduceAdd, Int.reduceSub, VC.regC_nil, VC.regC_cons, VC.regCK_eq, VC.callQ, VC.tailQ, VC.goCall, VC.chStep]
  exact Below.refl _ _

theorem certified_any (h : Hp B (MObs n need liars a s) w) (hok : MOK n t s) (hn : n ≤ 32) (hnd : need ≤ 1000) {b : Nat} (hb : b < s.nb) :
    Calls Try.prog 48 #[.pointer (some ⟨a.mb, 0, none⟩), .int .i64 b] w fun e w' => e = .returned (.bool (certB need s b)) ∧ Below w.heap.size w w' := by
  obtain ⟨g, c, e, hg, hv⟩ := mo_vot h hok.nb0
  have b1 := (mo_box h).at (i := 1) rfl
  have b4 := (mo_box h).at (i := 4) rfl
  rw [e] at b4
  have c0 := (hv b hb).1
  refine calls_vc (rs := [.tmp 4]) Fa.mix Try.func48 rfl Try.ntmps48 rfl (by kernel_rfl) (Nat.le_of_ble_eq_true rfl) ?_
  have hv32 : s.vm b < 4294967296 := Nat.lt_of_lt_of_le (hok.vm b) (Nat.le_trans (Nat.pow_le_pow_right (by omega) hn) (by decide))
  simp -dsimp only [Fa.F48, rdI_of b1, b1, rdSA_of b4, rdSN_of b4, rdSC_of b4, b4, rdI_of c0, c0, VC.Now, VC.vc, VC.lib, VC.regQ, VC.loopK, VC.reg, VC.opP, VC.pv, VC.thenF, VC.blkF, VC.retF, VC.resV, VC.oneV, VC.evo, VC.bin, VC.binI, VC.cmpI, VC.arithI, VC.ldv, VC.slv, VC.pickP, VC.holds, VC.chainOf, VC.look, VC.junk, VC.put, VC.eff, VC.callee, VC.pureB, VC.rdK, VC.rdKs, VC.okKs, VC.eqKs, VC.fillL, VC.putL, VC.stW, VC.stOK, VC.mixF, VC.setAll, Nat.reduceAdd, Nat.reduceSub, Nat.reduceMul, if_true, if_false, ↓reduceIte, forall_const, implies_true, reduceCtorEq, ne_eq, Nat.reduceBNe, Nat.reduceBEq, IntKind.signed, Nat.reduceEqDiff, Nat.reduceLeDiff, Nat.reduceLT, eq_self, Int.reduceEq, Int.reduceLT, Int.reduceLE, Int.reduceAdd, Int.reduceSub, VC.regC_nil, VC.regC_cons, VC.regCK_eq, VC.callQ, VC.tailQ, VC.goCall, VC.chStep]
  refine WP_calls Fa.mix (by kernel_rfl) (by kernel_rfl) rfl ?_
  simp -dsimp only [Fa.F48, rdI_of b1, b1, rdSA_of b4, rdSN_of b4, rdSC_of b4, b4, rdI_of c0, c0, VC.Now, VC.vc, VC.lib, VC.regQ, VC.loopK, VC.reg, VC.opP, VC.pv, VC.thenF, VC.blkF, VC.retF, VC.resV, VC.oneV, VC.evo, VC.bin, VC.binI, VC.cmpI, VC.arithI, VC.ldv, VC.slv, VC.pickP, VC.holds, VC.chainOf, VC.look, VC.junk, VC.put, VC.eff, VC.callee, VC.pureB, VC.rdK, VC.rdKs, VC.okKs, VC.eqKs, VC.fillL, VC.putL, VC.stW, VC.stOK, VC.mixF, VC.setAll, Nat.reduceAdd, Nat.reduceSub, Nat.reduceMul, if_true, if_false, ↓reduceIte, forall_const, implies_true, reduceCtorEq, ne_eq, Nat.reduceBNe, Nat.reduceBEq, IntKind.signed, Nat.reduceEqDiff, Nat.reduceLeDiff, Nat.reduceLT, eq_self, Int.reduceEq, Int.reduceLT, Int.reduceLE, Int.reduceAdd, Int.reduceSub, VC.regC_nil, VC.regC_cons, VC.regCK_eq, VC.callQ, VC.tailQ, VC.goCall, VC.chStep]
  refine ⟨fun _ => ⟨by omega, by omega⟩, CALLQ_of (v := .int .i64 (ones (s.vm b))) (fun _ wr _ => ones_any _ wr hv32) ?_⟩
  simp -dsimp only [Fa.F48, rdI_of b1, b1, rdSA_of b4, rdSN_of b4, rdSC_of b4, b4, rdI_of c0, c0, VC.Now, VC.vc, VC.lib, VC.regQ, VC.loopK, VC.reg, VC.opP, VC.pv, VC.thenF, VC.blkF, VC.retF, VC.resV, VC.oneV, VC.evo, VC.bin, VC.binI, VC.cmpI, VC.arithI, VC.ldv, VC.slv, VC.pickP, VC.holds, VC.chainOf, VC.look, VC.junk, VC.put, VC.eff, VC.callee, VC.pureB, VC.rdK, VC.rdKs, VC.okKs, VC.eqKs, VC.fillL, VC.putL, VC.stW, VC.stOK, VC.mixF, VC.setAll, Nat.reduceAdd, Nat.reduceSub, Nat.reduceMul, if_true, if_false, ↓reduceIte, forall_const, implies_true, reduceCtorEq, ne_eq, Nat.reduceBNe, Nat.reduceBEq, IntKind.signed, Nat.reduceEqDiff, Nat.reduceLeDiff, Nat.reduceLT, eq_self, Int.reduceEq, Int.reduceLT, Int.reduceLE, Int.reduceAdd, Int.reduceSub, VC.regC_nil, VC.regC_cons, VC.regCK_eq, VC.callQ, VC.tailQ, VC.goCall, VC.chStep]
  exact fun w' hB => ⟨ret_bool (by unfold certB; simp), hB⟩

theorem ones_lt {m n : Nat} (hm : m < 2 ^ n) (hn : n ≤ 32) : ones m = (List.range n).countP fun i => m.testBit i := by
  have e : List.range 32 = List.range n ++ (List.range (32 - n)).map (n + ·) := by rw [← List.range_add, Nat.add_sub_cancel' hn]
  unfold ones
  rw [e, List.countP_append, List.countP_map]
  have : (List.range (32 - n)).countP ((fun i => m.testBit i) ∘ (n + ·)) = 0 := by
    rw [List.countP_eq_zero]
    intro i hi
    show ¬ m.testBit (n + i) = true
    rw [Nat.testBit_lt_two_pow (Nat.lt_of_lt_of_le hm (Nat.pow_le_pow_right (by omega) (by omega)))]
    simp
  omega
theorem or_bit (m i j : Nat) : (m ||| 2 ^ i).testBit j = (m.testBit j || decide (i = j)) := by rw [Nat.testBit_or, Nat.testBit_two_pow]
theorem or_shl {m i : Nat} (hm : m < 4294967296) (hi : i < 32) : bits .or .u32 (m : Int) (IntKind.wrap .u32 (1 * 2 ^ shN .u32 (i : Int))) = ((m ||| 2 ^ i : Nat) : Int) := by
  have h2 : 2 ^ i < 4294967296 := Nat.lt_of_lt_of_le (Nat.pow_lt_pow_right (by omega) hi) (by decide)
  have e : IntKind.wrap .u32 (1 * 2 ^ shN .u32 (i : Int)) = ((2 ^ i : Nat) : Int) := by
    rw [shN_lt hi, Int.one_mul, IntKind.wrap_u32']
    have : ((2 : Int) ^ i) = ((2 ^ i : Nat) : Int) := by simp
    rw [this]; clear this; revert h2; generalize 2 ^ i = p; intro h2; omega
  rw [e, u32_or_nat m (2 ^ i) hm h2]

set_option maxRecDepth 8000 in
set_option maxHeartbeats 2000000 in
theorem passed_any (h : Hp B (MObs n need liars a s) w) (hok : MOK n t s) (hn : n ≤ 32) (hnd : need ≤ 1000) (round high : Int) :
    Calls Try.prog 105 #[.pointer (some ⟨a.mb, 0, none⟩), .int .i64 round, .int .i64 high] w fun e w' => e = .returned (.bool (passB n need s round high)) ∧ Below w.heap.size w w' := by
  have b1 := (mo_box h).at (i := 1) rfl
  have b6 := (mo_box h).at (i := 6) rfl
  have hM : MapV Try.prog EG w a.bl a.nl (lateM s) := h.get 4 rfl
  refine calls_vc (rs := [.tmp 6]) Fa.mix Try.func105 rfl Try.ntmps105 rfl (by kernel_rfl) (Nat.le_of_ble_eq_true rfl) ?_
  simp -dsimp only [Fa.F105, rdM_of b6, b6, VC.Now, VC.vc, VC.lib, VC.regQ, VC.loopK, VC.reg, VC.opP, VC.pv, VC.thenF, VC.blkF, VC.retF, VC.resV, VC.oneV, VC.evo, VC.bin, VC.binI, VC.cmpI, VC.arithI, VC.ldv, VC.slv, VC.pickP, VC.holds, VC.chainOf, VC.look, VC.junk, VC.put, VC.eff, VC.callee, VC.pureB, VC.rdK, VC.rdKs, VC.okKs, VC.eqKs, VC.fillL, VC.putL, VC.stW, VC.stOK, VC.mixF, VC.setAll, Nat.reduceAdd, Nat.reduceSub, Nat.reduceMul, if_true, if_false, ↓reduceIte, forall_const, implies_true, reduceCtorEq, ne_eq, Nat.reduceBNe, Nat.reduceBEq, IntKind.signed, Nat.reduceEqDiff, Nat.reduceLeDiff, Nat.reduceLT, eq_self, Int.reduceEq, Int.reduceLT, Int.reduceLE, Int.reduceAdd, Int.reduceSub, VC.regC_nil, VC.regC_cons, VC.regCK_eq, VC.callQ, VC.tailQ, VC.goCall, VC.chStep]
  refine OPW_rangeV hM rfl (by kernel_rfl) rfl fun w1 hR hB1 hs1 => ?_
  simp -dsimp only [Fa.F105, VC.Now, VC.vc, VC.lib, VC.regQ, VC.loopK, VC.reg, VC.opP, VC.pv, VC.thenF, VC.blkF, VC.retF, VC.resV, VC.oneV, VC.evo, VC.bin, VC.binI, VC.cmpI, VC.arithI, VC.ldv, VC.slv, VC.pickP, VC.holds, VC.chainOf, VC.look, VC.junk, VC.put, VC.eff, VC.callee, VC.pureB, VC.rdK, VC.rdKs, VC.okKs, VC.eqKs, VC.fillL, VC.putL, VC.stW, VC.stOK, VC.mixF, VC.setAll, Nat.reduceAdd, Nat.reduceSub, Nat.reduceMul, if_true, if_false, ↓reduceIte, forall_const, implies_true, reduceCtorEq, ne_eq, Nat.reduceBNe, Nat.reduceBEq, IntKind.signed, Nat.reduceEqDiff, Nat.reduceLeDiff, Nat.reduceLT, eq_self, Int.reduceEq, Int.reduceLT, Int.reduceLE, Int.reduceAdd, Int.reduceSub, VC.regC_nil, VC.regC_cons, VC.regCK_eq, VC.callQ, VC.tailQ, VC.goCall, VC.chStep]
  refine loop_slots Fa.mix [7] [8, 14, 15, 16, 17, 18, 19, 20, 21, 22, 23, 24, 25, 26, 27, 28, 29, 30, 31, 32] (fun m vs wr => ∃ (mask : Nat) (left : Int × Int × Int → Prop), vs = [.int .u32 mask] ∧ RangeV Try.prog EG wr a.bl w.heap.size a.nl (lateM s) left m ∧ mask < 2 ^ n ∧
      (∀ i : Nat, mask.testBit i = true ↔ ∃ g, g ≤ high ∧ s.lt (round, (i : Int), g) ∧ ¬ left (round, (i : Int), g)) ∧ Below w.heap.size w wr) a.nl (by kernel_rfl) rfl
    ⟨0, _, rfl, hR, Nat.pow_pos (by omega), fun i => ?_, hB1⟩ ?_
  · refine ⟨fun h => by simp at h, fun ⟨g, _, h1, h2⟩ => absurd ?_ h2⟩
    show (lateM s _).isSome = true
    unfold lateM; rw [if_pos h1]; rfl
  rintro m vs u wr ⟨mask, left, rfl, hRg, hmask, hbits, hB⟩
  simp -dsimp only [Fa.F105, VC.Now, VC.vc, VC.lib, VC.regQ, VC.loopK, VC.reg, VC.opP, VC.pv, VC.thenF, VC.blkF, VC.retF, VC.resV, VC.oneV, VC.evo, VC.bin, VC.binI, VC.cmpI, VC.arithI, VC.ldv, VC.slv, VC.pickP, VC.holds, VC.chainOf, VC.look, VC.junk, VC.put, VC.eff, VC.callee, VC.pureB, VC.rdK, VC.rdKs, VC.okKs, VC.eqKs, VC.fillL, VC.putL, VC.stW, VC.stOK, VC.mixF, VC.setAll, Nat.reduceAdd, Nat.reduceSub, Nat.reduceMul, if_true, if_false, ↓reduceIte, forall_const, implies_true, reduceCtorEq, ne_eq, Nat.reduceBNe, Nat.reduceBEq, IntKind.signed, Nat.reduceEqDiff, Nat.reduceLeDiff, Nat.reduceLT, eq_self, Int.reduceEq, Int.reduceLT, Int.reduceLE, Int.reduceAdd, Int.reduceSub, VC.regC_nil, VC.regC_cons, VC.regCK_eq, VC.callQ, VC.tailQ, VC.goCall, VC.chStep]
  refine OPW_nextV hRg rfl rfl (fun h0 hno => ?_) (fun x v w2 cnt' hx hlx hmx hRg2 hlt hA2 hs2 hE => ?_)
  · simp -dsimp only [Fa.F105, VC.Now, VC.vc, VC.lib, VC.regQ, VC.loopK, VC.reg, VC.opP, VC.pv, VC.thenF, VC.blkF, VC.retF, VC.resV, VC.oneV, VC.evo, VC.bin, VC.binI, VC.cmpI, VC.arithI, VC.ldv, VC.slv, VC.pickP, VC.holds, VC.chainOf, VC.look, VC.junk, VC.put, VC.eff, VC.callee, VC.pureB, VC.rdK, VC.rdKs, VC.okKs, VC.eqKs, VC.fillL, VC.putL, VC.stW, VC.stOK, VC.mixF, VC.setAll, Nat.reduceAdd, Nat.reduceSub, Nat.reduceMul, if_true, if_false, ↓reduceIte, forall_const, implies_true, reduceCtorEq, ne_eq, Nat.reduceBNe, Nat.reduceBEq, IntKind.signed, Nat.reduceEqDiff, Nat.reduceLeDiff, Nat.reduceLT, eq_self, Int.reduceEq, Int.reduceLT, Int.reduceLE, Int.reduceAdd, Int.reduceSub, VC.regC_nil, VC.regC_cons, VC.regCK_eq, VC.callQ, VC.tailQ, VC.goCall, VC.chStep]
    have hq1 : wr.cell? ⟨a.mb, 1, none⟩ = some (.int .i64 need) := (hB.cell (p := ⟨a.mb, 1, none⟩) (mo_box h).1).trans b1
    have h32 : mask < 4294967296 := Nat.lt_of_lt_of_le hmask (Nat.le_trans (Nat.pow_le_pow_right (by omega) hn) (by decide))
    refine WP_calls Fa.mix (by kernel_rfl) (by kernel_rfl) rfl ?_
    simp -dsimp only [Fa.F105, rdI_of hq1, hq1, VC.Now, VC.vc, VC.lib, VC.regQ, VC.loopK, VC.reg, VC.opP, VC.pv, VC.thenF, VC.blkF, VC.retF, VC.resV, VC.oneV, VC.evo, VC.bin, VC.binI, VC.cmpI, VC.arithI, VC.ldv, VC.slv, VC.pickP, VC.holds, VC.chainOf, VC.look, VC.junk, VC.put, VC.eff, VC.callee, VC.pureB, VC.rdK, VC.rdKs, VC.okKs, VC.eqKs, VC.fillL, VC.putL, VC.stW, VC.stOK, VC.mixF, VC.setAll, Nat.reduceAdd, Nat.reduceSub, Nat.reduceMul, if_true, if_false, ↓reduceIte, forall_const, implies_true, reduceCtorEq, ne_eq, Nat.reduceBNe, Nat.reduceBEq, IntKind.signed, Nat.reduceEqDiff, Nat.reduceLeDiff, Nat.reduceLT, eq_self, Int.reduceEq, Int.reduceLT, Int.reduceLE, Int.reduceAdd, Int.reduceSub, VC.regC_nil, VC.regC_cons, VC.regCK_eq, VC.callQ, VC.tailQ, VC.goCall, VC.chStep]
    refine CALLQ_of (v := .int .i64 (ones mask)) (fun _ wr _ => ones_any _ wr h32) ?_
    simp -dsimp only [Fa.F105, rdI_of hq1, hq1, VC.Now, VC.vc, VC.lib, VC.regQ, VC.loopK, VC.reg, VC.opP, VC.pv, VC.thenF, VC.blkF, VC.retF, VC.resV, VC.oneV, VC.evo, VC.bin, VC.binI, VC.cmpI, VC.arithI, VC.ldv, VC.slv, VC.pickP, VC.holds, VC.chainOf, VC.look, VC.junk, VC.put, VC.eff, VC.callee, VC.pureB, VC.rdK, VC.rdKs, VC.okKs, VC.eqKs, VC.fillL, VC.putL, VC.stW, VC.stOK, VC.mixF, VC.setAll, Nat.reduceAdd, Nat.reduceSub, Nat.reduceMul, if_true, if_false, ↓reduceIte, forall_const, implies_true, reduceCtorEq, ne_eq, Nat.reduceBNe, Nat.reduceBEq, IntKind.signed, Nat.reduceEqDiff, Nat.reduceLeDiff, Nat.reduceLT, eq_self, Int.reduceEq, Int.reduceLT, Int.reduceLE, Int.reduceAdd, Int.reduceSub, VC.regC_nil, VC.regC_cons, VC.regCK_eq, VC.callQ, VC.tailQ, VC.goCall, VC.chStep]
    refine fun w' hw' => ⟨ret_bool ?_, hB.trans (hw'.mono hB.size)⟩
    unfold passB
    rw [ones_lt hmask hn]
    have : (List.range n).countP (fun i => mask.testBit i) = (List.range n).countP (gaveN s round high) := by
      refine List.countP_congr fun i hi => ?_
      rw [hbits i]
      rw [show gaveN s round high i = true ↔ ∃ h, h ≤ high ∧ s.lt (round, (i : Int), h) from by unfold gaveN; simp]
      refine ⟨fun ⟨g, h1, h2, _⟩ => ⟨g, h1, h2⟩, fun ⟨g, h1, h2⟩ => ⟨g, h1, h2, hno _ ?_⟩⟩
      obtain ⟨k1, k2, k3⟩ := hok.lt _ h2
      simp only at k1 k2 k3
      intro j hj
      have hj : j ∈ [round, (i : Int), g] := hj
      simp only [List.mem_cons, List.not_mem_nil, or_false] at hj
      rcases hj with rfl | rfl | rfl <;> exact fits_i64 (by omega) (by omega)
    rw [this]
    simp
  · obtain ⟨ro, who, hi⟩ := x
    have hlt0 : s.lt (ro, who, hi) := by
      unfold lateM at hmx
      split at hmx
      · assumption
      · cases hmx
    have hE' : EntryV Try.prog w2 w.heap.size (.agg #[.int .i64 ro, .int .i64 who, .int .i64 hi]) v := hE
    obtain ⟨k1, k2, k3⟩ := hok.lt _ hlt0
    simp only at k1 k2 k3
    obtain ⟨i0, rfl⟩ : ∃ i0 : Nat, who = i0 := ⟨who.toNat, by omega⟩
    have hi0 : i0 < n := by omega
    have hB2 : Below w.heap.size w w2 := hA2.to_below hB hB.size fun k hk => by rw [hk]; exact Nat.le_refl _
    have h32 : mask < 4294967296 := Nat.lt_of_lt_of_le hmask (Nat.le_trans (Nat.pow_le_pow_right (by omega) hn) (by decide))
    simp -dsimp only [Fa.F105, VC.Now, VC.vc, VC.lib, VC.regQ, VC.loopK, VC.reg, VC.opP, VC.pv, VC.thenF, VC.blkF, VC.retF, VC.resV, VC.oneV, VC.evo, VC.bin, VC.binI, VC.cmpI, VC.arithI, VC.ldv, VC.slv, VC.pickP, VC.holds, VC.chainOf, VC.look, VC.junk, VC.put, VC.eff, VC.callee, VC.pureB, VC.rdK, VC.rdKs, VC.okKs, VC.eqKs, VC.fillL, VC.putL, VC.stW, VC.stOK, VC.mixF, VC.setAll, Nat.reduceAdd, Nat.reduceSub, Nat.reduceMul, if_true, if_false, ↓reduceIte, forall_const, implies_true, reduceCtorEq, ne_eq, Nat.reduceBNe, Nat.reduceBEq, IntKind.signed, Nat.reduceEqDiff, Nat.reduceLeDiff, Nat.reduceLT, eq_self, Int.reduceEq, Int.reduceLT, Int.reduceLE, Int.reduceAdd, Int.reduceSub, VC.regC_nil, VC.regC_cons, VC.regCK_eq, VC.callQ, VC.tailQ, VC.goCall, VC.chStep]
    refine OPW_entryV hE' rfl rfl ?_
    simp -dsimp only [Fa.F105, VC.Now, VC.vc, VC.lib, VC.regQ, VC.loopK, VC.reg, VC.opP, VC.pv, VC.thenF, VC.blkF, VC.retF, VC.resV, VC.oneV, VC.evo, VC.bin, VC.binI, VC.cmpI, VC.arithI, VC.ldv, VC.slv, VC.pickP, VC.holds, VC.chainOf, VC.look, VC.junk, VC.put, VC.eff, VC.callee, VC.pureB, VC.rdK, VC.rdKs, VC.okKs, VC.eqKs, VC.fillL, VC.putL, VC.stW, VC.stOK, VC.mixF, VC.setAll, Nat.reduceAdd, Nat.reduceSub, Nat.reduceMul, if_true, if_false, ↓reduceIte, forall_const, implies_true, reduceCtorEq, ne_eq, Nat.reduceBNe, Nat.reduceBEq, IntKind.signed, Nat.reduceEqDiff, Nat.reduceLeDiff, Nat.reduceLT, eq_self, Int.reduceEq, Int.reduceLT, Int.reduceLE, Int.reduceAdd, Int.reduceSub, VC.regC_nil, VC.regC_cons, VC.regCK_eq, VC.callQ, VC.tailQ, VC.goCall, VC.chStep]
    have hal : Below w2.heap.size w2 (w2.alloc (.cells #[.int .i64 ro, .int .i64 (i0 : Int), .int .i64 hi] 212)) := (Below.refl _ _).alloc (Nat.le_refl _) _
    have hRg3 := hRg2.below hal
    have hB3 := hB2.trans (hal.mono hB2.size)
    refine fun u2 => ⟨fun hc => ?_, fun hc => ?_⟩
    · obtain ⟨rfl, hc⟩ := hc
      refine ⟨by omega, SAME.intro (by kernel_rfl), cnt', hlt, mask ||| 2 ^ i0, _, ?_, hRg3, or_pow_lt hmask hi0, fun j => ?_, hB3⟩
      · rw [or_shl h32 (by omega)]
      · rw [or_bit, Bool.or_eq_true, hbits j]
        constructor
        · rintro (⟨g, h1, h2, h3⟩ | h1)
          · exact ⟨g, h1, h2, fun h4 => h3 h4.1⟩
          · have : i0 = j := by simpa using h1
            subst this
            exact ⟨hi, hc, hlt0, fun h4 => h4.2 rfl⟩
        · rintro ⟨g, h1, h2, h3⟩
          by_cases hl : left (ro, (j : Int), g)
          · have e := Classical.not_not.1 fun h5 => h3 ⟨hl, h5⟩
            simp only [Prod.mk.injEq, true_and] at e
            exact Or.inr (by rw [decide_eq_true_eq]; omega)
          · exact Or.inl ⟨g, h1, h2, hl⟩
    · refine ⟨SAME.intro (by kernel_rfl), cnt', hlt, mask, _, rfl, hRg3, hmask, fun j => ?_, hB3⟩
      rw [hbits j]
      refine ⟨fun ⟨g, h1, h2, h3⟩ => ⟨g, h1, h2, fun h4 => h3 h4.1⟩, fun ⟨g, h1, h2, h3⟩ => ⟨g, h1, h2, fun h4 => h3 ⟨h4, fun h5 => hc ?_⟩⟩⟩
      simp only [Prod.mk.injEq] at h5
      exact ⟨h5.1.symm, by omega⟩

set_option maxRecDepth 8000 in
set_option maxHeartbeats 2000000 in
theorem agrees_any (h : Hp B (MObs n need liars a s) w) (hok : MOK n t s) (hn : n ≤ 32) (hnd : need ≤ 1000) {i b : Nat} (hi : i < n) (h0 : 0 < b) (hb : b < s.nb) :
    Calls Try.prog 94 #[.pointer (some ⟨a.mb, 0, none⟩), .int .i64 i, .int .i64 b] w fun e w' => e = .returned (.bool (agreesB n need s i b)) ∧ Below w.heap.size w w' := by
  obtain ⟨g, c, e, hg, hblk⟩ := mo_blk h hok.nb0
  have b3 := (mo_box h).at (i := 3) rfl
  have b5 := (mo_box h).at (i := 5) rfl
  rw [e] at b3
  obtain ⟨c0, c1⟩ := hblk b hb
  obtain ⟨hp1, hp2⟩ := hok.par h0 hb
  obtain ⟨_, d1⟩ := hblk (s.p b).toNat (by omega)
  have m0 := (mo_mem h hi).1
  have hr := hok.rr b hb
  have hnb := hok.nb1
  by_cases q1 : s.vd i < s.r b
  · have e1 := eq_true q1
    by_cases q2 : s.r (s.p b).toNat = s.r b - 1
    · have e2 := eq_true q2
      refine calls_vc (rs := [.tmp 6]) Fa.mix Try.func94 rfl Try.ntmps94 rfl (by kernel_rfl) (Nat.le_of_ble_eq_true rfl) ?_
      simp -dsimp only [Fa.F94, rdSA_of b3, rdSN_of b3, rdSC_of b3, b3, rdSA_of b5, rdSN_of b5, rdSC_of b5, b5, rdI_of c0, c0, rdI_of c1, c1, rdI_of d1, d1, rdI_of m0, m0, e1, e2, undef, tu, uf, ul, ur, VC.Now, VC.vc, VC.lib, VC.regQ, VC.loopK, VC.reg, VC.opP, VC.pv, VC.thenF, VC.blkF, VC.retF, VC.resV, VC.oneV, VC.evo, VC.bin, VC.binI, VC.cmpI, VC.arithI, VC.ldv, VC.slv, VC.pickP, VC.holds, VC.chainOf, VC.look, VC.junk, VC.put, VC.eff, VC.callee, VC.pureB, VC.rdK, VC.rdKs, VC.okKs, VC.eqKs, VC.fillL, VC.putL, VC.stW, VC.stOK, VC.mixF, VC.setAll, Nat.reduceAdd, Nat.reduceSub, Nat.reduceMul, if_true, if_false, ↓reduceIte, forall_const, implies_true, reduceCtorEq, ne_eq, Nat.reduceBNe, Nat.reduceBEq, IntKind.signed, Nat.reduceEqDiff, Nat.reduceLeDiff, Nat.reduceLT, eq_self, Int.reduceEq, Int.reduceLT, Int.reduceLE, Int.reduceAdd, Int.reduceSub, VC.regC_nil, VC.regC_cons, VC.regCK_eq, VC.callQ, VC.tailQ, VC.goCall, VC.chStep]
      exact ⟨⟨by omega, by omega⟩, ⟨by omega, by omega⟩, ⟨by omega, by omega⟩, fun m => ⟨⟨by omega, by omega⟩, fits_i64 (by omega) (by omega), ret_bool (by unfold agreesB; simp [q1, q2]), below_drewN (Below.refl _ _) _⟩⟩
    · have e2 := eq_false q2
      refine calls_vc (rs := [.tmp 6]) Fa.mix Try.func94 rfl Try.ntmps94 rfl (by kernel_rfl) (Nat.le_of_ble_eq_true rfl) ?_
      simp -dsimp only [Fa.F94, rdSA_of b3, rdSN_of b3, rdSC_of b3, b3, rdSA_of b5, rdSN_of b5, rdSC_of b5, b5, rdI_of c0, c0, rdI_of c1, c1, rdI_of d1, d1, rdI_of m0, m0, e1, e2, undef, tu, uf, ul, ur, VC.Now, VC.vc, VC.lib, VC.regQ, VC.loopK, VC.reg, VC.opP, VC.pv, VC.thenF, VC.blkF, VC.retF, VC.resV, VC.oneV, VC.evo, VC.bin, VC.binI, VC.cmpI, VC.arithI, VC.ldv, VC.slv, VC.pickP, VC.holds, VC.chainOf, VC.look, VC.junk, VC.put, VC.eff, VC.callee, VC.pureB, VC.rdK, VC.rdKs, VC.okKs, VC.eqKs, VC.fillL, VC.putL, VC.stW, VC.stOK, VC.mixF, VC.setAll, Nat.reduceAdd, Nat.reduceSub, Nat.reduceMul, if_true, if_false, ↓reduceIte, forall_const, implies_true, reduceCtorEq, ne_eq, Nat.reduceBNe, Nat.reduceBEq, IntKind.signed, Nat.reduceEqDiff, Nat.reduceLeDiff, Nat.reduceLT, eq_self, Int.reduceEq, Int.reduceLT, Int.reduceLE, Int.reduceAdd, Int.reduceSub, VC.regC_nil, VC.regC_cons, VC.regCK_eq, VC.callQ, VC.tailQ, VC.goCall, VC.chStep]
      refine ⟨⟨by omega, by omega⟩, ⟨by omega, by omega⟩, ⟨by omega, by omega⟩, fun m => ⟨⟨by omega, by omega⟩, fits_i64 (by omega) (by omega), fits_i64 (by omega) (by omega), ?_⟩⟩
      refine CALL_of (passed_any (h.drewN m) hok hn hnd _ _) fun w2 hw2 => ?_
      simp -dsimp only [Fa.F94, rdSA_of b3, rdSN_of b3, rdSC_of b3, b3, rdSA_of b5, rdSN_of b5, rdSC_of b5, b5, rdI_of c0, c0, rdI_of c1, c1, rdI_of d1, d1, rdI_of m0, m0, e1, e2, undef, tu, uf, ul, ur, VC.Now, VC.vc, VC.lib, VC.regQ, VC.loopK, VC.reg, VC.opP, VC.pv, VC.thenF, VC.blkF, VC.retF, VC.resV, VC.oneV, VC.evo, VC.bin, VC.binI, VC.cmpI, VC.arithI, VC.ldv, VC.slv, VC.pickP, VC.holds, VC.chainOf, VC.look, VC.junk, VC.put, VC.eff, VC.callee, VC.pureB, VC.rdK, VC.rdKs, VC.okKs, VC.eqKs, VC.fillL, VC.putL, VC.stW, VC.stOK, VC.mixF, VC.setAll, Nat.reduceAdd, Nat.reduceSub, Nat.reduceMul, if_true, if_false, ↓reduceIte, forall_const, implies_true, reduceCtorEq, ne_eq, Nat.reduceBNe, Nat.reduceBEq, IntKind.signed, Nat.reduceEqDiff, Nat.reduceLeDiff, Nat.reduceLT, eq_self, Int.reduceEq, Int.reduceLT, Int.reduceLE, Int.reduceAdd, Int.reduceSub, VC.regC_nil, VC.regC_cons, VC.regCK_eq, VC.callQ, VC.tailQ, VC.goCall, VC.chStep]
      exact ⟨ret_bool (by unfold agreesB; simp [q1, q2]), (below_drewN (Below.refl _ w) m).trans hw2⟩
  · have e1 := eq_false q1
    refine calls_vc (rs := [.tmp 6]) Fa.mix Try.func94 rfl Try.ntmps94 rfl (by kernel_rfl) (Nat.le_of_ble_eq_true rfl) ?_
    simp -dsimp only [Fa.F94, rdSA_of b3, rdSN_of b3, rdSC_of b3, b3, rdSA_of b5, rdSN_of b5, rdSC_of b5, b5, rdI_of c0, c0, rdI_of c1, c1, rdI_of d1, d1, rdI_of m0, m0, e1, undef, tu, uf, ul, ur, VC.Now, VC.vc, VC.lib, VC.regQ, VC.loopK, VC.reg, VC.opP, VC.pv, VC.thenF, VC.blkF, VC.retF, VC.resV, VC.oneV, VC.evo, VC.bin, VC.binI, VC.cmpI, VC.arithI, VC.ldv, VC.slv, VC.pickP, VC.holds, VC.chainOf, VC.look, VC.junk, VC.put, VC.eff, VC.callee, VC.pureB, VC.rdK, VC.rdKs, VC.okKs, VC.eqKs, VC.fillL, VC.putL, VC.stW, VC.stOK, VC.mixF, VC.setAll, Nat.reduceAdd, Nat.reduceSub, Nat.reduceMul, if_true, if_false, ↓reduceIte, forall_const, implies_true, reduceCtorEq, ne_eq, Nat.reduceBNe, Nat.reduceBEq, IntKind.signed, Nat.reduceEqDiff, Nat.reduceLeDiff, Nat.reduceLT, eq_self, Int.reduceEq, Int.reduceLT, Int.reduceLE, Int.reduceAdd, Int.reduceSub, VC.regC_nil, VC.regC_cons, VC.regCK_eq, VC.callQ, VC.tailQ, VC.goCall, VC.chStep]
    exact ⟨⟨by omega, by omega⟩, ⟨by omega, by omega⟩, ⟨by omega, by omega⟩, fun m => ⟨⟨by omega, by omega⟩, ret_bool (by unfold agreesB; simp [q1]), below_drewN (Below.refl _ _) _⟩⟩
end
end Go.Proofs.Ytnggjekppdlaoaa
