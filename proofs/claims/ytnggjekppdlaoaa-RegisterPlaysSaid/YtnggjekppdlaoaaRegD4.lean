/- Many copies as one, the document's: a late step. -/
import Derived.Test.YtnggjekppdlaoaaRegD3
namespace Go.Proofs.Ytnggjekppdlaoaa
open Go Go.RowKit Go.VC
set_option linter.unusedSimpArgs false
set_option linter.unusedVariables false
section
variable {B n t : Nat} {a : DA} {s : RS} {st : Nat → List Sto} {sn : Nat → List Nat} {w : World}

set_option maxRecDepth 8000 in
set_option maxHeartbeats 8000000 in
theorem dstep_late (h : Hp B (DObs n a s st sn) w) (hd : DRel t s st sn) (hok : ROK n t s) (ht : t ≤ 120) (c : Call) (hk : c.kind = 3) (ha : 0 ≤ c.at_ ∧ c.at_ < n) :
    Calls Try.prog 54 #[.pointer (some ⟨a.mb, 0, none⟩), callV c, .int .i64 t] w (DPost B n t a s st sn w (rstep n c t s)) := by
  have x0 := Box.new w (callL c) 142
  have hB0 : Below w.heap.size w (w.alloc (.cells (callL c).toArray 142)) := (Below.refl _ _).alloc (Nat.le_refl _) _
  refine calls_vc (rs := [.tmp 6]) Fa.mix Try.func54 rfl Try.ntmps54 rfl (by kernel_rfl) (Nat.le_of_ble_eq_true rfl) ?_
  (repeat rw [vc_seq]); refine vc_plain _ fun Q hQ => ?_; simp -dsimp only [Fa.F54, VC.Now, VC.vc_skip, VC.vc_ret, VC.vc_exit, VC.vc_block, VC.vc_cond, VC.vc_region, VC.lib, VC.regQ, VC.loopK, VC.reg, VC.opP, VC.pv, VC.thenF, VC.blkF, VC.retF, VC.resV, VC.oneV, VC.evo, VC.bin, VC.binI, VC.cmpI, VC.arithI, VC.ldv, VC.slv, VC.pickP, VC.holds, VC.chainOf, VC.look, VC.junk, VC.put, VC.eff, VC.callee, VC.pureB, VC.rdK, VC.rdKs, VC.okKs, VC.eqKs, VC.fillL, VC.putL, VC.stW, VC.stOK, VC.mixF, VC.setAll, Nat.reduceAdd, Nat.reduceSub, Nat.reduceMul, if_true, if_false, ↓reduceIte, forall_const, implies_true, reduceCtorEq, ne_eq, Nat.reduceBNe, Nat.reduceBEq, IntKind.signed, Nat.reduceEqDiff, Nat.reduceLeDiff, Nat.reduceLT, eq_self, Int.reduceEq, Int.reduceLT, Int.reduceLE, Int.reduceAdd, Int.reduceSub, VC.regC_nil, VC.regC_cons, VC.regCK_eq, VC.callQ, VC.tailQ, VC.goCall, VC.chStep]
  change Q _ _ (w.alloc (.cells (callL c).toArray 142))
  generalize w.alloc (.cells (callL c).toArray 142) = w1 at x0 hB0 ⊢
  have hsz : ∀ L : List Ob, Hp B L w → ¬ foot L w.heap.size := fun L hL hf => by have := (hL.foot_lt hf).2; omega
  generalize hsb : w.heap.size = sb at x0 hsz ⊢
  have h1 := h.below hB0
  have z0 := x0.at (i := 0) rfl
  have z1 := x0.at (i := 1) rfl
  have z2 := x0.at (i := 2) rfl
  have z3 := x0.at (i := 3) rfl
  have e1 : (c.kind = 1) = False := eq_false (by omega)
  have e2 : (c.kind = 2) = False := eq_false (by omega)
  have e3 : (c.kind = 3) = True := eq_true (by omega)
  have e6 : (c.at_ < 0) = False := eq_false (by omega)
  have e7 : ((n : Int) ≤ c.at_) = False := eq_false (by omega)
  have hbm := (h1.get 0 rfl : Box w1 a.mb (shelfC n a))
  have hml := hbm.1
  have m0 := hbm.at (i := 0) rfl
  have m1 := hbm.at (i := 1) rfl
  have m2 := hbm.at (i := 2) rfl
  obtain ⟨Ao, co, eo, _⟩ := id (h1.get 2 rfl : OwnK w1 0 145 6 s.k a.vo _)
  obtain ⟨Au, cu, eu, _⟩ := id (h1.get 3 rfl : OwnK w1 0 189 6 s.k a.vu _)
  rw [eo] at m1
  rw [eu] at m2
  have hend : ∀ x, rstep n c t s = (x, s) → ∀ m, DPost B n t a s st sn w (rstep n c t s) (.returned (.int .i64 x)) (w1.drewN m) := fun x hr m => DPost.same h hd (hB0.trans ((below_drewN (Below.refl _ w1) m).mono hB0.size)) hr
  have hrl : rstep n c t s = rlate c s := by unfold rstep; rw [if_neg (by omega), if_neg (by omega), if_neg (by omega), if_neg (by omega)]
  by_cases q5 : c.of_ < 0
  · have e10 := eq_true q5
    have hr : rstep n c t s = (2, s) := by rw [hrl]; unfold rlate; rw [if_pos (Or.inl (Or.inl q5))]
    subst hQ
    cases Au with
    | none =>
      simp -dsimp only [Fa.F54, rdI_of z0, z0, rdI_of z1, z1, rdI_of z2, z2, rdI_of z3, z3, rdSA_of m0, rdSN_of m0, rdSC_of m0, m0, rdSA_of m1, rdSN_of m1, rdSC_of m1, m1, rdSA_of m2, rdSN_of m2, rdSC_of m2, m2, hml, e1, e2, e3, e6, e7, e10, undef, tu, uf, ul, ur, VC.Now, VC.vc, VC.lib, VC.regQ, VC.loopK, VC.reg, VC.opP, VC.pv, VC.thenF, VC.blkF, VC.retF, VC.resV, VC.oneV, VC.evo, VC.bin, VC.binI, VC.cmpI, VC.arithI, VC.ldv, VC.slv, VC.pickP, VC.holds, VC.chainOf, VC.look, VC.junk, VC.put, VC.eff, VC.callee, VC.pureB, VC.rdK, VC.rdKs, VC.okKs, VC.eqKs, VC.fillL, VC.putL, VC.stW, VC.stOK, VC.mixF, VC.setAll, Nat.reduceAdd, Nat.reduceSub, Nat.reduceMul, if_true, if_false, ↓reduceIte, forall_const, implies_true, reduceCtorEq, ne_eq, Nat.reduceBNe, Nat.reduceBEq, IntKind.signed, Nat.reduceEqDiff, Nat.reduceLeDiff, Nat.reduceLT, eq_self, Int.reduceEq, Int.reduceLT, Int.reduceLE, Int.reduceAdd, Int.reduceSub, VC.regC_nil, VC.regC_cons, VC.regCK_eq, VC.callQ, VC.tailQ, VC.goCall, VC.chStep]
      exact fun m m' => hend 2 hr (m + m')
    | some ga =>
      simp -dsimp only [Fa.F54, rdI_of z0, z0, rdI_of z1, z1, rdI_of z2, z2, rdI_of z3, z3, rdSA_of m0, rdSN_of m0, rdSC_of m0, m0, rdSA_of m1, rdSN_of m1, rdSC_of m1, m1, rdSA_of m2, rdSN_of m2, rdSC_of m2, m2, hml, e1, e2, e3, e6, e7, e10, undef, tu, uf, ul, ur, VC.Now, VC.vc, VC.lib, VC.regQ, VC.loopK, VC.reg, VC.opP, VC.pv, VC.thenF, VC.blkF, VC.retF, VC.resV, VC.oneV, VC.evo, VC.bin, VC.binI, VC.cmpI, VC.arithI, VC.ldv, VC.slv, VC.pickP, VC.holds, VC.chainOf, VC.look, VC.junk, VC.put, VC.eff, VC.callee, VC.pureB, VC.rdK, VC.rdKs, VC.okKs, VC.eqKs, VC.fillL, VC.putL, VC.stW, VC.stOK, VC.mixF, VC.setAll, Nat.reduceAdd, Nat.reduceSub, Nat.reduceMul, if_true, if_false, ↓reduceIte, forall_const, implies_true, reduceCtorEq, ne_eq, Nat.reduceBNe, Nat.reduceBEq, IntKind.signed, Nat.reduceEqDiff, Nat.reduceLeDiff, Nat.reduceLT, eq_self, Int.reduceEq, Int.reduceLT, Int.reduceLE, Int.reduceAdd, Int.reduceSub, VC.regC_nil, VC.regC_cons, VC.regCK_eq, VC.callQ, VC.tailQ, VC.goCall, VC.chStep]
      exact fun m m' => hend 2 hr (m + m')
  have e10 := eq_false q5
  by_cases q6 : (s.k : Int) ≤ c.of_
  · have e11 := eq_true q6
    have hr : rstep n c t s = (2, s) := by rw [hrl]; unfold rlate; rw [if_pos (Or.inl (Or.inr q6))]
    subst hQ
    cases Au with
    | none =>
      simp -dsimp only [Fa.F54, rdI_of z0, z0, rdI_of z1, z1, rdI_of z2, z2, rdI_of z3, z3, rdSA_of m0, rdSN_of m0, rdSC_of m0, m0, rdSA_of m1, rdSN_of m1, rdSC_of m1, m1, rdSA_of m2, rdSN_of m2, rdSC_of m2, m2, hml, e1, e2, e3, e6, e7, e10, e11, undef, tu, uf, ul, ur, VC.Now, VC.vc, VC.lib, VC.regQ, VC.loopK, VC.reg, VC.opP, VC.pv, VC.thenF, VC.blkF, VC.retF, VC.resV, VC.oneV, VC.evo, VC.bin, VC.binI, VC.cmpI, VC.arithI, VC.ldv, VC.slv, VC.pickP, VC.holds, VC.chainOf, VC.look, VC.junk, VC.put, VC.eff, VC.callee, VC.pureB, VC.rdK, VC.rdKs, VC.okKs, VC.eqKs, VC.fillL, VC.putL, VC.stW, VC.stOK, VC.mixF, VC.setAll, Nat.reduceAdd, Nat.reduceSub, Nat.reduceMul, if_true, if_false, ↓reduceIte, forall_const, implies_true, reduceCtorEq, ne_eq, Nat.reduceBNe, Nat.reduceBEq, IntKind.signed, Nat.reduceEqDiff, Nat.reduceLeDiff, Nat.reduceLT, eq_self, Int.reduceEq, Int.reduceLT, Int.reduceLE, Int.reduceAdd, Int.reduceSub, VC.regC_nil, VC.regC_cons, VC.regCK_eq, VC.callQ, VC.tailQ, VC.goCall, VC.chStep]
      exact fun m m' => hend 2 hr (m + m')
    | some ga =>
      simp -dsimp only [Fa.F54, rdI_of z0, z0, rdI_of z1, z1, rdI_of z2, z2, rdI_of z3, z3, rdSA_of m0, rdSN_of m0, rdSC_of m0, m0, rdSA_of m1, rdSN_of m1, rdSC_of m1, m1, rdSA_of m2, rdSN_of m2, rdSC_of m2, m2, hml, e1, e2, e3, e6, e7, e10, e11, undef, tu, uf, ul, ur, VC.Now, VC.vc, VC.lib, VC.regQ, VC.loopK, VC.reg, VC.opP, VC.pv, VC.thenF, VC.blkF, VC.retF, VC.resV, VC.oneV, VC.evo, VC.bin, VC.binI, VC.cmpI, VC.arithI, VC.ldv, VC.slv, VC.pickP, VC.holds, VC.chainOf, VC.look, VC.junk, VC.put, VC.eff, VC.callee, VC.pureB, VC.rdK, VC.rdKs, VC.okKs, VC.eqKs, VC.fillL, VC.putL, VC.stW, VC.stOK, VC.mixF, VC.setAll, Nat.reduceAdd, Nat.reduceSub, Nat.reduceMul, if_true, if_false, ↓reduceIte, forall_const, implies_true, reduceCtorEq, ne_eq, Nat.reduceBNe, Nat.reduceBEq, IntKind.signed, Nat.reduceEqDiff, Nat.reduceLeDiff, Nat.reduceLT, eq_self, Int.reduceEq, Int.reduceLT, Int.reduceLE, Int.reduceAdd, Int.reduceSub, VC.regC_nil, VC.regC_cons, VC.regCK_eq, VC.callQ, VC.tailQ, VC.goCall, VC.chStep]
      exact fun m m' => hend 2 hr (m + m')
  have e11 := eq_false q6
  obtain ⟨i, hi0⟩ : ∃ i : Nat, c.of_ = i := ⟨c.of_.toNat, by omega⟩
  have hiN : c.of_.toNat = i := by omega
  have hi : i < s.k := by omega
  obtain ⟨x, hx0⟩ : ∃ x : Nat, c.at_ = x := ⟨c.at_.toNat, by omega⟩
  have hxN : c.at_.toNat = x := by omega
  have hx : x < n := by omega
  rw [hi0] at z3 e10 e11
  rw [hx0] at z2 e6 e7
  clear Au Ao eo eu m1 m2
  obtain ⟨go, co, eo, _, hgo⟩ := (h1.get 2 rfl : OwnK w1 0 145 6 s.k a.vo _).form (by omega)
  obtain ⟨gu, cu, eu, _, hgu⟩ := (h1.get 3 rfl : OwnK w1 0 189 6 s.k a.vu _).form (by omega)
  have m1 := hbm.at (i := 1) rfl
  have m2 := hbm.at (i := 2) rfl
  rw [eo] at m1
  rw [eu] at m2
  have hou : OwnK w1 0 189 6 s.k (.slice (some ⟨gu, 0, none⟩) s.k cu) (seqC (unsP a s) s.k) := eu ▸ (h1.get 3 rfl : OwnK w1 0 189 6 s.k a.vu _)
  have y3 := (OwnK.cellS hou (fun _ _ => rfl) hi (show 3 < 6 by omega) rfl).1
  cases hsec : (s.op i).second with
  | false =>
    have hr : rstep n c t s = (2, s) := by rw [hrl]; unfold rlate; rw [if_pos (Or.inr (by rw [hiN]; exact hsec))]
    rw [hsec] at y3
    simp only [Bool.false_eq_true, if_false] at y3
    subst hQ
    simp -dsimp only [Fa.F54, rdI_of z0, z0, rdI_of z1, z1, rdI_of z2, z2, rdI_of z3, z3, rdSA_of m0, rdSN_of m0, rdSC_of m0, m0, rdSA_of m1, rdSN_of m1, rdSC_of m1, m1, rdSA_of m2, rdSN_of m2, rdSC_of m2, m2, rdI_of y3, y3, hgu, hml, e1, e2, e3, e6, e7, e10, e11, undef, tu, uf, ul, ur, Int.toNat_natCast, Nat.zero_add, VC.Now, VC.vc, VC.lib, VC.regQ, VC.loopK, VC.reg, VC.opP, VC.pv, VC.thenF, VC.blkF, VC.retF, VC.resV, VC.oneV, VC.evo, VC.bin, VC.binI, VC.cmpI, VC.arithI, VC.ldv, VC.slv, VC.pickP, VC.holds, VC.chainOf, VC.look, VC.junk, VC.put, VC.eff, VC.callee, VC.pureB, VC.rdK, VC.rdKs, VC.okKs, VC.eqKs, VC.fillL, VC.putL, VC.stW, VC.stOK, VC.mixF, VC.setAll, Nat.reduceAdd, Nat.reduceSub, Nat.reduceMul, if_true, if_false, ↓reduceIte, forall_const, implies_true, reduceCtorEq, ne_eq, Nat.reduceBNe, Nat.reduceBEq, IntKind.signed, Nat.reduceEqDiff, Nat.reduceLeDiff, Nat.reduceLT, eq_self, Int.reduceEq, Int.reduceLT, Int.reduceLE, Int.reduceAdd, Int.reduceSub, VC.regC_nil, VC.regC_cons, VC.regCK_eq, VC.callQ, VC.tailQ, VC.goCall, VC.chStep]
    exact fun m => ⟨⟨by omega, by omega⟩, fun m' => hend 2 hr (m + m')⟩
  | true =>
    have hr : rstep n c t s = (0, { s with cp := rstore s.cp x (s.op i).b }) := by rw [hrl]; unfold rlate; rw [if_neg (by rw [hiN, hsec]; intro h; rcases h with (h | h) | h; omega; omega; cases h), hxN, hiN]
    rw [hsec] at y3
    simp only [if_true] at y3
    have h2 : Hp B (DMid n a s st sn x i (a.sv x) (st x) (opsP s i) (unsP a s i) (a.uv i) (sn i)) w1 := h1.perm (dmid_start hx hi)
    subst hQ
    simp -dsimp only [Fa.F54, rdI_of z0, z0, rdI_of z1, z1, rdI_of z2, z2, rdI_of z3, z3, rdSA_of m0, rdSN_of m0, rdSC_of m0, m0, rdSA_of m1, rdSN_of m1, rdSC_of m1, m1, rdSA_of m2, rdSN_of m2, rdSC_of m2, m2, rdI_of y3, y3, hgu, hml, e1, e2, e3, e6, e7, e10, e11, undef, tu, uf, ul, ur, Int.toNat_natCast, Nat.zero_add, VC.Now, VC.vc, VC.lib, VC.regQ, VC.loopK, VC.reg, VC.opP, VC.pv, VC.thenF, VC.blkF, VC.retF, VC.resV, VC.oneV, VC.evo, VC.bin, VC.binI, VC.cmpI, VC.arithI, VC.ldv, VC.slv, VC.pickP, VC.holds, VC.chainOf, VC.look, VC.junk, VC.put, VC.eff, VC.callee, VC.pureB, VC.rdK, VC.rdKs, VC.okKs, VC.eqKs, VC.fillL, VC.putL, VC.stW, VC.stOK, VC.mixF, VC.setAll, Nat.reduceAdd, Nat.reduceSub, Nat.reduceMul, if_true, if_false, ↓reduceIte, forall_const, implies_true, reduceCtorEq, ne_eq, Nat.reduceBNe, Nat.reduceBEq, IntKind.signed, Nat.reduceEqDiff, Nat.reduceLeDiff, Nat.reduceLT, eq_self, Int.reduceEq, Int.reduceLT, Int.reduceLE, Int.reduceAdd, Int.reduceSub, VC.regC_nil, VC.regC_cons, VC.regCK_eq, VC.callQ, VC.tailQ, VC.goCall, VC.chStep]
    intro u u1 m
    refine ⟨⟨by omega, by omega⟩, fun u2 m1 => ?_⟩
    have hB2 : Below w.heap.size w (w1.drewN (m + m1)) := (hB0.trans ((below_drewN (Below.refl _ w1) (m + m1)).mono hB0.size))
    replace h2 := h2.drewN (m + m1)
    replace x0 : Box (w1.drewN (m + m1)) sb (callL c) := x0.below (below_drewN (Below.refl _ w1) (m + m1))
    generalize w1.drewN (m + m1) = w2 at h2 hB2 x0 ⊢
    clear m0 m1 m2 y3 hml hgo hgu hou z0 z1 z2 z3 hbm h1 hend hB0
    have z2 := x0.at (i := 2) rfl
    have z3 := x0.at (i := 3) rfl
    rw [hx0] at z2
    rw [hi0] at z3
    have hsl := x0.1
    have hbm := (h2.get 0 rfl : Box w2 a.mb (shelfC n a))
    have hml := hbm.1
    have m0 := hbm.at (i := 0) rfl
    have m2 := hbm.at (i := 2) rfl
    rw [eu] at m2
    have hou : OwnK w2 0 189 6 s.k a.vu (seqC (upd (unsP a s) i (unsP a s i)) s.k) := h2.get 3 rfl
    rw [eu] at hou
    have hgu := (hou.lt (g := gu) rfl).2
    have hKu := len_upd (P := unsP a s) (K := 6) (i := i) (k := s.k) (c := unsP a s i) (fun _ _ => rfl) rfl
    have y0 := (OwnK.cellS hou hKu hi (show 0 < 6 by omega) (by rw [upd_same]; rfl)).1
    have y1 := (OwnK.cellS hou hKu hi (show 1 < 6 by omega) (by rw [upd_same]; rfl)).1
    have y2 := (OwnK.cellS hou hKu hi (show 2 < 6 by omega) (by rw [upd_same]; rfl)).1
    have hrs : Recs w2 a.gs n 1 (upd (fun i => [a.sv i]) x [a.sv x]) := h2.get 1 rfl
    have s0 := hrs.at (i := x) (j := 0) hx (by omega) (by rw [upd_same]; rfl)
    have hgs := hrs.1
    have hsx : OwnK w2 0 187 3 (st x).length (a.sv x) ((st x).flatMap stL) := h2.get 4 rfl
    obtain ⟨Ax, cx, ex, _⟩ := id hsx
    rw [ex] at s0 hsx
    simp only [Nat.mul_one, Nat.add_zero] at s0 y0
    refine WP_held 26 (fun j => (a.sv x).ownBlock = some j) (.take 0 (.take 1 (.take 2 (.take 3 (.take 4 (.take 5 (.take 6 (.take 7 (.take 8 (.take 9 (.take 10 (.take 11 (.take 12 (.take 13 (.take 14 (.take 15 (.take 16 (.take 17 (.take 18 (.take 19 (.take 20 (.take 21 (.take 22 (.one 23 (.one 24 (.take 25 (.one 26 .done))))))))))))))))))))))))))) Fa.mix (by kernel_rfl) rfl ?_
    simp -dsimp only [VC.heldF_done, VC.heldF_last, VC.planF_done, VC.planF_take, VC.planF_one, VC.planF_two, VC.planK_eq, VC.heldF_take, VC.heldF_one, VC.heldF_two, VC.heldF_twoL, VC.heldK_eq, VC.okRd, Fa.F54, rdI_of z2, z2, rdI_of z3, z3, rdSA_of m0, rdSN_of m0, rdSC_of m0, m0, rdSA_of m2, rdSN_of m2, rdSC_of m2, m2, rdSA_of s0, rdSN_of s0, rdSC_of s0, s0, rdI_of y0, y0, rdI_of y1, y1, rdI_of y2, y2, hsl, hml, hgu, hgs, Int.toNat_natCast, Nat.zero_add, VC.Now, VC.vc, VC.lib, VC.regQ, VC.loopK, VC.reg, VC.opP, VC.pv, VC.thenF, VC.blkF, VC.retF, VC.resV, VC.oneV, VC.evo, VC.bin, VC.binI, VC.cmpI, VC.arithI, VC.ldv, VC.slv, VC.pickP, VC.holds, VC.chainOf, VC.look, VC.junk, VC.put, VC.eff, VC.callee, VC.pureB, VC.rdK, VC.rdKs, VC.okKs, VC.eqKs, VC.fillL, VC.putL, VC.stW, VC.stOK, VC.mixF, VC.setAll, Nat.reduceAdd, Nat.reduceSub, Nat.reduceMul, if_true, if_false, ↓reduceIte, forall_const, implies_true, reduceCtorEq, ne_eq, Nat.reduceBNe, Nat.reduceBEq, IntKind.signed, Nat.reduceEqDiff, Nat.reduceLeDiff, Nat.reduceLT, eq_self, Int.reduceEq, Int.reduceLT, Int.reduceLE, Int.reduceAdd, Int.reduceSub, VC.regC_nil, VC.regC_cons, VC.regCK_eq, VC.callQ, VC.tailQ, VC.goCall, VC.chStep]
    have nmb : ¬ (a.sv x).ownBlock = some a.mb := fun hf => h2.ne 0 4 (by decide) rfl rfl a.mb rfl hf
    have nsb : ¬ (a.sv x).ownBlock = some sb := fun hf => hsz _ (h.perm (dmid_start hx hi)) (foot_at (i := 4) rfl hf)
    have ngs : ¬ (a.sv x).ownBlock = some a.gs := fun hf => h2.ne 1 4 (by decide) rfl rfl a.gs rfl hf
    have ngu : ¬ (a.sv x).ownBlock = some gu := fun hf => h2.ne 3 4 (by decide) rfl rfl gu (show a.vu.ownBlock = some gu by rw [eu]; rfl) hf
    have hlen := hd.len x
    have hHd := h2.drewN 1
    have ag0 : Agree (fun j => (a.sv x).ownBlock = some j) w2 (w2.drewN 1) := Agree.of_below (below_drewN (Below.refl _ w2) 1)
    refine ⟨nmb, nsb, nmb, nsb, ⟨by omega, by omega⟩, ngs, nmb, nsb, ⟨by omega, by omega⟩, ngu, ag0.trans (Agree.of_below ((Below.refl _ _).alloc (Nat.le_refl _) _)), ?_⟩
    refine OPW_appK (v := a.sv x) rfl Fa.apI190 (by rw [ex]; rfl) rfl rfl (by simp [Value.oneCell']) (hHd.get 4 rfl) (Nat.zero_le _) (by omega) (by decide) fun v5 w5 ho5 hg5 hst5 => ?_
    obtain ⟨A5, c5, e5, _⟩ := id ho5
    have hl5 : (st x).length + 1 = (st x ++ [(s.op i).b]).length := by rw [List.length_append]; rfl
    have hf5 : (st x).flatMap stL ++ stL (s.op i).b = (st x ++ [(s.op i).b]).flatMap stL := by rw [List.flatMap_append]; rfl
    change OwnK w5 0 _ 3 ((st x).length + 1) v5 ((st x).flatMap stL ++ stL (s.op i).b) at ho5
    rw [hf5, hl5] at ho5
    obtain ⟨⟨r1, r2⟩, st6⟩ := growRow hHd 1 4 rfl rfl (by decide) ho5 hg5 hst5 hx (u := a.sv x) (by rw [upd_same])
    have ag5 := ag0.trans (Agree.grown hg5 fun j hj => hj)
    subst e5
    simp -dsimp only [VC.heldF_done, VC.heldF_last, VC.planF_done, VC.planF_take, VC.planF_one, VC.planF_two, VC.planK_eq, VC.heldF_take, VC.heldF_one, VC.heldF_two, VC.heldF_twoL, VC.heldK_eq, VC.okRd, Fa.F54, rdI_of z2, z2, rdI_of z3, z3, rdSA_of m0, rdSN_of m0, rdSC_of m0, m0, rdSA_of m2, rdSN_of m2, rdSC_of m2, m2, rdSA_of s0, rdSN_of s0, rdSC_of s0, s0, hsl, hml, hgu, hgs, Int.toNat_natCast, Nat.zero_add, VC.Now, VC.vc, VC.lib, VC.regQ, VC.loopK, VC.reg, VC.opP, VC.pv, VC.thenF, VC.blkF, VC.retF, VC.resV, VC.oneV, VC.evo, VC.bin, VC.binI, VC.cmpI, VC.arithI, VC.ldv, VC.slv, VC.pickP, VC.holds, VC.chainOf, VC.look, VC.junk, VC.put, VC.eff, VC.callee, VC.pureB, VC.rdK, VC.rdKs, VC.okKs, VC.eqKs, VC.fillL, VC.putL, VC.stW, VC.stOK, VC.mixF, VC.setAll, Nat.reduceAdd, Nat.reduceSub, Nat.reduceMul, if_true, if_false, ↓reduceIte, forall_const, implies_true, reduceCtorEq, ne_eq, Nat.reduceBNe, Nat.reduceBEq, IntKind.signed, Nat.reduceEqDiff, Nat.reduceLeDiff, Nat.reduceLT, eq_self, Int.reduceEq, Int.reduceLT, Int.reduceLE, Int.reduceAdd, Int.reduceSub, VC.regC_nil, VC.regC_cons, VC.regCK_eq, VC.callQ, VC.tailQ, VC.goCall, VC.chStep]
    rw [upd_upd] at st6
    refine ⟨ag5, ⟨by omega, by omega⟩, ⟨r1, r2⟩, ?_⟩
    have hfin := DPost.mid (t := t) (cp' := rstore s.cp x (s.op i).b) (now' := s.now) (o' := s.op i) (r := rstep n c t s) hx hi (((h.perm (dmid_start hx hi)).below_st hB2).trans (((h2.below_st (below_drewN (Below.refl _ w2) 1))).trans st6)) (by rw [hr, upd_self]) (by
      rw [hr, upd_self]
      exact drel_late hd x (s.op i).b)
    exact hfin
end
end Go.Proofs.Ytnggjekppdlaoaa
