/- Play: the program's whole run. -/
import Derived.Test.YtnggjekppdlaoaaBak2
namespace Go.Proofs.Ytnggjekppdlaoaa
open Go Go.RowKit Go.VC
set_option linter.unusedSimpArgs false
set_option linter.unusedVariables false

set_option maxRecDepth 8000 in
set_option maxHeartbeats 4000000 in
theorem play_any (A : Option Addr) (n : Nat) (c : Nat) (l : List Int) (w : World) (hr : Rd w A (l.map (Value.int .i64))) (h1 : 1 ≤ n) (h4 : n ≤ 4) (hl : l.length ≤ 120) :
    Calls Try.prog 8 #[.int .i64 n, .slice A l.length c] w fun e w' => ∃ v, e = .returned (.tuple #[v, .int .i64 0]) ∧ BakV n (bst n (fun i => l.getD i 0) l.length) v w' ∧ Below w.heap.size w w' := by
  have e1 : ((n : Int) < 1) = False := eq_false (by omega)
  have e2 : ((4 : Int) < n) = False := eq_false (by omega)
  have e3 : ((120 : Int) < l.length) = False := eq_false (by omega)
  refine calls_vc (rs := [.cell 4 26, .tmp 5]) Fa.mix Try.func8 rfl Try.ntmps8 rfl (by kernel_rfl) (Nat.le_of_ble_eq_true rfl) ?_
  (repeat rw [vc_seq]); refine vc_plain _ fun Q hQ => ?_; simp -dsimp only [Fa.F8, e1, e2, e3, VC.Now, VC.vc_skip, VC.vc_ret, VC.vc_exit, VC.vc_block, VC.vc_cond, VC.vc_region, VC.lib, VC.regQ, VC.loopK, VC.reg, VC.opP, VC.pv, VC.thenF, VC.blkF, VC.retF, VC.resV, VC.oneV, VC.evo, VC.bin, VC.binI, VC.cmpI, VC.arithI, VC.ldv, VC.slv, VC.pickP, VC.holds, VC.chainOf, VC.look, VC.junk, VC.put, VC.eff, VC.callee, VC.pureB, VC.rdK, VC.rdKs, VC.okKs, VC.eqKs, VC.fillL, VC.putL, VC.stW, VC.stOK, VC.mixF, VC.setAll, Nat.reduceAdd, Nat.reduceSub, Nat.reduceMul, if_true, if_false, ↓reduceIte, forall_const, implies_true, reduceCtorEq, ne_eq, Nat.reduceBNe, Nat.reduceBEq, IntKind.signed, Nat.reduceEqDiff, Nat.reduceLeDiff, Nat.reduceLT, eq_self, Int.reduceEq, Int.reduceLT, Int.reduceLE, Int.reduceAdd, Int.reduceSub, VC.regC_nil, VC.regC_cons, VC.regCK_eq, VC.callQ, VC.tailQ, VC.goCall, VC.chStep]
  subst hQ; simp -dsimp only [VC.Now, VC.vc_skip, VC.vc_ret, VC.vc_exit, VC.vc_block, VC.vc_cond, VC.vc_region, VC.lib, VC.regQ, VC.loopK, VC.reg, VC.opP, VC.pv, VC.thenF, VC.blkF, VC.retF, VC.resV, VC.oneV, VC.evo, VC.bin, VC.binI, VC.cmpI, VC.arithI, VC.ldv, VC.slv, VC.pickP, VC.holds, VC.chainOf, VC.look, VC.junk, VC.put, VC.eff, VC.callee, VC.pureB, VC.rdK, VC.rdKs, VC.okKs, VC.eqKs, VC.fillL, VC.putL, VC.stW, VC.stOK, VC.mixF, VC.setAll, Nat.reduceAdd, Nat.reduceSub, Nat.reduceMul, if_true, if_false, ↓reduceIte, forall_const, implies_true, reduceCtorEq, ne_eq, Nat.reduceBNe, Nat.reduceBEq, IntKind.signed, Nat.reduceEqDiff, Nat.reduceLeDiff, Nat.reduceLT, eq_self, Int.reduceEq, Int.reduceLT, Int.reduceLE, Int.reduceAdd, Int.reduceSub, VC.regC_nil, VC.regC_cons, VC.regCK_eq, VC.callQ, VC.tailQ, VC.goCall, VC.chStep]; (repeat rw [vc_seq]); refine vc_plain _ fun Q hQ => ?_; simp -dsimp only [Fa.F8, e1, e2, e3, VC.Now, VC.vc_skip, VC.vc_ret, VC.vc_exit, VC.vc_block, VC.vc_cond, VC.vc_region, VC.lib, VC.regQ, VC.loopK, VC.reg, VC.opP, VC.pv, VC.thenF, VC.blkF, VC.retF, VC.resV, VC.oneV, VC.evo, VC.bin, VC.binI, VC.cmpI, VC.arithI, VC.ldv, VC.slv, VC.pickP, VC.holds, VC.chainOf, VC.look, VC.junk, VC.put, VC.eff, VC.callee, VC.pureB, VC.rdK, VC.rdKs, VC.okKs, VC.eqKs, VC.fillL, VC.putL, VC.stW, VC.stOK, VC.mixF, VC.setAll, Nat.reduceAdd, Nat.reduceSub, Nat.reduceMul, if_true, if_false, ↓reduceIte, forall_const, implies_true, reduceCtorEq, ne_eq, Nat.reduceBNe, Nat.reduceBEq, IntKind.signed, Nat.reduceEqDiff, Nat.reduceLeDiff, Nat.reduceLT, eq_self, Int.reduceEq, Int.reduceLT, Int.reduceLE, Int.reduceAdd, Int.reduceSub, VC.regC_nil, VC.regC_cons, VC.regCK_eq, VC.callQ, VC.tailQ, VC.goCall, VC.chStep]
  intro u
  subst hQ
  simp -dsimp only [Fa.F8, e1, e2, e3, VC.Now, VC.vc, VC.lib, VC.regQ, VC.loopK, VC.reg, VC.opP, VC.pv, VC.thenF, VC.blkF, VC.retF, VC.resV, VC.oneV, VC.evo, VC.bin, VC.binI, VC.cmpI, VC.arithI, VC.ldv, VC.slv, VC.pickP, VC.holds, VC.chainOf, VC.look, VC.junk, VC.put, VC.eff, VC.callee, VC.pureB, VC.rdK, VC.rdKs, VC.okKs, VC.eqKs, VC.fillL, VC.putL, VC.mixF, VC.setAll, Nat.reduceAdd, Nat.reduceSub, Nat.reduceMul, if_true, if_false, ↓reduceIte, forall_const, implies_true, reduceCtorEq, ne_eq, Nat.reduceBNe, Nat.reduceBEq, IntKind.signed, Nat.reduceEqDiff, Nat.reduceLeDiff, Nat.reduceLT, eq_self, Int.reduceEq, Int.reduceLT, Int.reduceLE, Int.reduceAdd, Int.reduceSub, VC.regC_nil, VC.regC_cons, VC.regCK_eq, VC.callQ, VC.tailQ, VC.goCall, VC.chStep]
  have hb0 : Box (w.alloc (.cells #[nilS, nilS, nilS, nilS, nilS] 26)) w.heap.size [nilS, nilS, nilS, nilS, nilS] := Box.new w _ _
  have hb1 := Box.new (w.alloc (.cells #[nilS, nilS, nilS, nilS, nilS] 26)) [.nilFunc, .nilFunc, .nilFunc, .nilFunc, .nilFunc, .nilFunc] 75
  have hB0 := below_box (below_box (Below.refl w.heap.size w) (.cells #[nilS, nilS, nilS, nilS, nilS] 26)) (.cells #[.nilFunc, .nilFunc, .nilFunc, .nilFunc, .nilFunc, .nilFunc] 75)
  have hz1 : (w.alloc (.cells #[nilS, nilS, nilS, nilS, nilS] 26)).heap.size = w.heap.size + 1 := by simp
  rw [hz1] at hb1
  replace hb0 := hb0.below (below_box (Below.refl _ _) (.cells #[.nilFunc, .nilFunc, .nilFunc, .nilFunc, .nilFunc, .nilFunc] 75))
  have hz2 : ((w.alloc (.cells #[nilS, nilS, nilS, nilS, nilS] 26)).alloc (.cells #[.nilFunc, .nilFunc, .nilFunc, .nilFunc, .nilFunc, .nilFunc] 75)).heap.size = w.heap.size + 2 := by simp
  change Box ((w.alloc (.cells #[nilS, nilS, nilS, nilS, nilS] 26)).alloc (.cells #[.nilFunc, .nilFunc, .nilFunc, .nilFunc, .nilFunc, .nilFunc] 75)) _ _ at hb1
  generalize hwa : (w.alloc (.cells #[nilS, nilS, nilS, nilS, nilS] 26)).alloc (.cells #[.nilFunc, .nilFunc, .nilFunc, .nilFunc, .nilFunc, .nilFunc] 75) = wa at hb0 hb1 hB0 hz2 ⊢
  obtain ⟨ho1, hbs⟩ := hb1.stAll (vs := stL) rfl (by intro v hv; simp at hv; rcases hv with rfl | rfl | rfl | rfl | rfl | rfl <;> rfl)
  have hag1 : Agree (fun j => j = w.heap.size + 1) wa (stW wa ⟨w.heap.size + 1, 0, none⟩ 0 stL) := stW_agree (X := fun j => j = w.heap.size + 1) rfl _ _ _
  replace hb0 := hb0.agree hag1 (by omega)
  have hB1 : Below w.heap.size w (stW wa ⟨w.heap.size + 1, 0, none⟩ 0 stL) := hag1.to_below hB0 hB0.size fun j hj => by omega
  have hs1 := stW_size (g := w.heap.size + 1) stL wa 0
  refine ⟨ho1, ?_⟩
  clear ho1
  generalize hwb : stW wa ⟨w.heap.size + 1, 0, none⟩ 0 stL = wb at *
  refine OPW_makeK (n := n) (base := wb.heap.size) rfl Fa.apI77 rfl rfl rfl rfl (by omega) (by omega) (Nat.le_refl _) fun w2 ho2 hg2 => ?_
  have hB2 : Below w.heap.size w w2 := hB1.grown hg2 hB1.size fun k hk => by cases hk
  have hs2 : w.heap.size + 3 ≤ w2.heap.size := by have := (ho2.lt (g := wb.heap.size) rfl).2; omega
  simp -dsimp only [Fa.F8, e1, e2, e3, VC.Now, VC.vc, VC.lib, VC.regQ, VC.loopK, VC.reg, VC.opP, VC.pv, VC.thenF, VC.blkF, VC.retF, VC.resV, VC.oneV, VC.evo, VC.bin, VC.binI, VC.cmpI, VC.arithI, VC.ldv, VC.slv, VC.pickP, VC.holds, VC.chainOf, VC.look, VC.junk, VC.put, VC.eff, VC.callee, VC.pureB, VC.rdK, VC.rdKs, VC.okKs, VC.eqKs, VC.fillL, VC.putL, VC.mixF, VC.setAll, Nat.reduceAdd, Nat.reduceSub, Nat.reduceMul, if_true, if_false, ↓reduceIte, forall_const, implies_true, reduceCtorEq, ne_eq, Nat.reduceBNe, Nat.reduceBEq, IntKind.signed, Nat.reduceEqDiff, Nat.reduceLeDiff, Nat.reduceLT, eq_self, Int.reduceEq, Int.reduceLT, Int.reduceLE, Int.reduceAdd, Int.reduceSub, VC.regC_nil, VC.regC_cons, VC.regCK_eq, VC.callQ, VC.tailQ, VC.goCall, VC.chStep]
  generalize hw3 : (w2.alloc (.cells #[.slice (some ⟨wb.heap.size, 0, none⟩) n n, nilS] 79)).alloc (.cells #[nilS, nilS, nilS, nilS, nilS] 26) = w3
  have hsb : wb.heap.size = w.heap.size + 2 := by omega
  rw [hsb] at hw3 ho2 ⊢
  have hBn : Below w2.heap.size w2 w3 := by rw [← hw3]; exact below_box (below_box (Below.refl _ _) _) _
  have hB3 : Below w.heap.size w w3 := hB2.trans (hBn.mono hB2.size)
  have hPI : PI w.heap.size w2.heap.size n nilS nilS (bst n (fun i => l.getD i 0) 0) w3 := by
    have r1 := (hbs.agree (X := fun _ => False) (Agree.grown hg2 fun k hk => by cases hk) (by simp)).below hBn
    have r2 := (hb0.agree (X := fun _ => False) (Agree.grown hg2 fun k hk => by cases hk) (by simp)).below hBn
    refine ⟨hs2, ⟨?_, ?_, OwnK.nil _ _ _ _, by omega, fun e => (by cases e), fun e => (by cases e)⟩, r1, ?_, r2, OwnK.nil _ _ _ _, fun g hg => (by cases hg)⟩
    · rw [← hw3]; exact (Box.new w2 _ _).below (below_box (Below.refl _ _) _)
    · exact (Recs.of_own (cs := fun _ => prC ⟨0, 0, 0, 0, false⟩) ho2 (by omega) (fun i hi j hj => made_at _ rfl hi hj)).below hBn
    · have h := Box.new (w2.alloc (.cells #[.slice (some ⟨w.heap.size + 2, 0, none⟩) n n, nilS] 79)) [nilS, nilS, nilS, nilS, nilS] 26
      rw [← hw3]
      simpa using h
  clear hBn ho2 hg2 hbs hb0 hB1 hw3
  generalize hs0 : w2.heap.size = s0 at *
  refine loop_slots Fa.mix [32] [10, 33, 34, 35, 36, 37, 38, 39, 40, 41, 42, 43, 44, 45, 46, 47, 48, 49, 50, 51, 52, 53, 54, 55, 56, 57, 58, 59, 60, 61, 62, 63, 64, 65, 66] (fun m vs wx => ∃ (k : Nat) (v vc : Value), k + m = l.length ∧ vs = [.int .i64 k] ∧ Below w.heap.size w wx ∧ PI w.heap.size s0 n v vc (bst n (fun i => l.getD i 0) k) wx) l.length (by kernel_rfl) rfl
    ⟨0, nilS, nilS, by omega, rfl, hB3, hPI⟩ ?_
  clear hPI hB3 hB2
  rintro m vs u wx ⟨k, v, vc, hkm, rfl, hBx, hPI⟩
  obtain ⟨hok, hin, hco⟩ := bst_ok n (fun i => l.getD i 0) k
  by_cases hk : k < l.length
  · obtain ⟨b, o, rfl, hb, hc⟩ := (hr.below hBx).at hk 0
    generalize hx : l.getD k 0 = x at hc
    have hbs : bst n (fun i => l.getD i 0) (k + 1) = bstep n x (bst n (fun i => l.getD i 0) k) := by rw [← hx]; rfl
    generalize bst n (fun i => l.getD i 0) k = s at *
    have e5 : ((k : Int) < l.length) = True := eq_true (by omega)
    obtain ⟨Ac, cc, rfl, _⟩ := id hPI.own
    have fv : ∀ b, v.ownBlock = some b → s0 + 2 ≤ b := fun b e => (hPI.shop.own.lt e).1
    have fc : ∀ b, (Value.slice Ac s.codes.length cc).ownBlock = some b → s0 + 2 ≤ b := fun b e => (hPI.own.lt e).1
    have lo := hPI.lo
    by_cases hin : 0 ≤ x ∧ x < n
    · obtain ⟨i, rfl⟩ : ∃ i : Nat, x = i := ⟨x.toNat, by omega⟩
      have hi : i < n := by omega
      have e6 : ((i : Int) < 0) = False := eq_false (by omega)
      have e7 : ((n : Int) ≤ i) = False := eq_false (by omega)
      have y0 := hPI.shop.box.at (i := 0) rfl
      have y1 := (hPI.shop.cell hi).1
      have y2 := hPI.st.at (stL_at (hok i).1)
      have yc := callB_step (s.p i).at'
      simp -dsimp only [Fa.F8, e5, e6, e7, rdI_of hc, hc, rdSA_of y0, rdSN_of y0, rdSC_of y0, y0, rdI_of y1, y1, rdV_of y2, y2, yc, Nat.zero_add, Nat.mul_one, Int.toNat_natCast, VC.Now, VC.vc, VC.lib, VC.regQ, VC.loopK, VC.reg, VC.opP, VC.pv, VC.thenF, VC.blkF, VC.retF, VC.resV, VC.oneV, VC.evo, VC.bin, VC.binI, VC.cmpI, VC.arithI, VC.ldv, VC.slv, VC.pickP, VC.holds, VC.chainOf, VC.look, VC.junk, VC.put, VC.eff, VC.callee, VC.pureB, VC.rdK, VC.rdKs, VC.okKs, VC.eqKs, VC.fillL, VC.putL, VC.mixF, VC.setAll, Nat.reduceAdd, Nat.reduceSub, Nat.reduceMul, if_true, if_false, ↓reduceIte, forall_const, implies_true, reduceCtorEq, ne_eq, Nat.reduceBNe, Nat.reduceBEq, IntKind.signed, Nat.reduceEqDiff, Nat.reduceLeDiff, Nat.reduceLT, eq_self, Int.reduceEq, Int.reduceLT, Int.reduceLE, Int.reduceAdd, Int.reduceSub, VC.regC_nil, VC.regC_cons, VC.regCK_eq, VC.callQ, VC.tailQ, VC.goCall, VC.chStep]
      refine ⟨by omega, fun uu => ⟨⟨by omega, by omega⟩, ⟨by omega, by have := (hok i).1; omega⟩, CALL_of (step_any hPI.shop hPI.out.1 (by omega) hi hok (by omega) (by omega)) fun w4 ⟨v4, hS4, hst4, hag4⟩ => ?_⟩⟩
      have hP4 := hPI.step hS4 hst4 hag4
      have hB4 : Below w.heap.size w w4 := hag4.to_below hBx hBx.size fun j hj => by
        rcases hj with h | h | h
        · omega
        · omega
        · have := fv j h; omega
      have y3 := hP4.out.at (i := 0) rfl
      simp -dsimp only [Fa.F8, e5, e6, e7, rdI_of hc, hc, rdSA_of y0, rdSN_of y0, rdSC_of y0, y0, rdI_of y1, y1, rdV_of y2, y2, yc, rdSA_of y3, rdSN_of y3, rdSC_of y3, y3, Nat.zero_add, Nat.mul_one, Int.toNat_natCast, VC.Now, VC.vc, VC.lib, VC.regQ, VC.loopK, VC.reg, VC.opP, VC.pv, VC.thenF, VC.blkF, VC.retF, VC.resV, VC.oneV, VC.evo, VC.bin, VC.binI, VC.cmpI, VC.arithI, VC.ldv, VC.slv, VC.pickP, VC.holds, VC.chainOf, VC.look, VC.junk, VC.put, VC.eff, VC.callee, VC.pureB, VC.rdK, VC.rdKs, VC.okKs, VC.eqKs, VC.fillL, VC.putL, VC.mixF, VC.setAll, Nat.reduceAdd, Nat.reduceSub, Nat.reduceMul, if_true, if_false, ↓reduceIte, forall_const, implies_true, reduceCtorEq, ne_eq, Nat.reduceBNe, Nat.reduceBEq, IntKind.signed, Nat.reduceEqDiff, Nat.reduceLeDiff, Nat.reduceLT, eq_self, Int.reduceEq, Int.reduceLT, Int.reduceLE, Int.reduceAdd, Int.reduceSub, VC.regC_nil, VC.regC_cons, VC.regCK_eq, VC.callQ, VC.tailQ, VC.goCall, VC.chStep]
      refine OPW_appK rfl Fa.apI23 rfl rfl rfl (by simp [Value.oneCell']) hP4.own hP4.out.1 (by show s.codes.length ≤ _; omega) (by decide) fun v5 w5 ho5 hg5 hst5 => ?_
      obtain ⟨A5, c5, rfl, _⟩ := id ho5
      obtain ⟨r1, r2, r3⟩ := hP4.code ho5 hg5 hst5
      have hB5 : Below w.heap.size w (w5.setCell ⟨s0 + 1, 0, none⟩ (.slice A5 (s.codes.length + 1) c5)) := (Agree.trans (X := fun j => w.heap.size ≤ j) (Agree.grown hg5 fun j hj => by have := fc j hj; omega) (Agree.setCell w5 _ (by show w.heap.size ≤ s0 + 1; omega))).to_below hB4 hB4.size fun j hj => hj
      simp -dsimp only [Fa.F8, e5, e6, e7, rdI_of hc, hc, rdSA_of y0, rdSN_of y0, rdSC_of y0, y0, rdI_of y1, y1, rdV_of y2, y2, yc, rdSA_of y3, rdSN_of y3, rdSC_of y3, y3, Nat.zero_add, Nat.mul_one, Int.toNat_natCast, VC.Now, VC.vc, VC.lib, VC.regQ, VC.loopK, VC.reg, VC.opP, VC.pv, VC.thenF, VC.blkF, VC.retF, VC.resV, VC.oneV, VC.evo, VC.bin, VC.binI, VC.cmpI, VC.arithI, VC.ldv, VC.slv, VC.pickP, VC.holds, VC.chainOf, VC.look, VC.junk, VC.put, VC.eff, VC.callee, VC.pureB, VC.rdK, VC.rdKs, VC.okKs, VC.eqKs, VC.fillL, VC.putL, VC.stW, VC.stOK, VC.mixF, VC.setAll, Nat.reduceAdd, Nat.reduceSub, Nat.reduceMul, if_true, if_false, ↓reduceIte, forall_const, implies_true, reduceCtorEq, ne_eq, Nat.reduceBNe, Nat.reduceBEq, IntKind.signed, Nat.reduceEqDiff, Nat.reduceLeDiff, Nat.reduceLT, eq_self, Int.reduceEq, Int.reduceLT, Int.reduceLE, Int.reduceAdd, Int.reduceSub, VC.regC_nil, VC.regC_cons, VC.regCK_eq, VC.callQ, VC.tailQ, VC.goCall, VC.chStep]
      refine ⟨⟨r1, r2⟩, fits_i64_nat (by omega), SAME.intro (by kernel_rfl), m - 1, by omega, k + 1, v4, .slice A5 (s.codes.length + 1) c5, by omega, rfl, hB5, ?_⟩
      rw [hbs]
      unfold bstep
      rw [if_pos hin]
      exact r3
    · have e6 : (x < 0 ∨ (n : Int) ≤ x) := by omega
      have hbe : bst n (fun i => l.getD i 0) (k + 1) = ⟨s.p, s.inn, s.codes ++ [2]⟩ := by rw [hbs]; unfold bstep; rw [if_neg hin]
      have y3 := hPI.out.at (i := 0) rfl
      have fin : ∀ (v5 : Value) w5, OwnK w5 (s0 + 2) 27 1 (s.codes.length + 1) v5 (ints s.codes ++ [.int .i64 2]) → wx.grownBy w5 (Value.slice Ac s.codes.length cc).ownBlock → Stays wx (.slice Ac s.codes.length cc) v5 →
          ((w5.cell? ⟨s0 + 1, 0, none⟩).isSome = true ∧ w5.frozen? ⟨s0 + 1, 0, none⟩ = false) ∧ Below w.heap.size w (w5.setCell ⟨s0 + 1, 0, none⟩ v5) ∧ PI w.heap.size s0 n v v5 (bst n (fun i => l.getD i 0) (k + 1)) (w5.setCell ⟨s0 + 1, 0, none⟩ v5) := fun v5 w5 ho5 hg5 hst5 => by
        obtain ⟨r1, r2, r3⟩ := hPI.code ho5 hg5 hst5
        exact ⟨⟨r1, r2⟩, (Agree.trans (X := fun j => w.heap.size ≤ j) (Agree.grown hg5 fun j hj => by have := fc j hj; omega) (Agree.setCell w5 _ (by show w.heap.size ≤ s0 + 1; omega))).to_below hBx hBx.size fun j hj => hj, hbe ▸ r3⟩
      by_cases hx0 : x < 0
      · have e7 : (x < 0) = True := eq_true hx0
        simp -dsimp only [Fa.F8, e5, e7, rdI_of hc, hc, rdSA_of y3, rdSN_of y3, rdSC_of y3, y3, Nat.zero_add, Nat.mul_one, Int.toNat_natCast, VC.Now, VC.vc, VC.lib, VC.regQ, VC.loopK, VC.reg, VC.opP, VC.pv, VC.thenF, VC.blkF, VC.retF, VC.resV, VC.oneV, VC.evo, VC.bin, VC.binI, VC.cmpI, VC.arithI, VC.ldv, VC.slv, VC.pickP, VC.holds, VC.chainOf, VC.look, VC.junk, VC.put, VC.eff, VC.callee, VC.pureB, VC.rdK, VC.rdKs, VC.okKs, VC.eqKs, VC.fillL, VC.putL, VC.stW, VC.stOK, VC.mixF, VC.setAll, Nat.reduceAdd, Nat.reduceSub, Nat.reduceMul, if_true, if_false, ↓reduceIte, forall_const, implies_true, reduceCtorEq, ne_eq, Nat.reduceBNe, Nat.reduceBEq, IntKind.signed, Nat.reduceEqDiff, Nat.reduceLeDiff, Nat.reduceLT, eq_self, Int.reduceEq, Int.reduceLT, Int.reduceLE, Int.reduceAdd, Int.reduceSub, VC.regC_nil, VC.regC_cons, VC.regCK_eq, VC.callQ, VC.tailQ, VC.goCall, VC.chStep]
        refine ⟨by omega, fun uu => ?_⟩
        refine OPW_appK rfl Fa.apI23 rfl rfl rfl (by simp [Value.oneCell']) hPI.own hPI.out.1 (by omega) (by decide) fun v5 w5 ho5 hg5 hst5 => ?_
        obtain ⟨A5, c5, rfl, _⟩ := id ho5
        obtain ⟨r1, r2, r3⟩ := fin _ _ ho5 hg5 hst5
        simp -dsimp only [Fa.F8, e5, e7, rdI_of hc, hc, rdSA_of y3, rdSN_of y3, rdSC_of y3, y3, Nat.zero_add, Nat.mul_one, Int.toNat_natCast, VC.Now, VC.vc, VC.lib, VC.regQ, VC.loopK, VC.reg, VC.opP, VC.pv, VC.thenF, VC.blkF, VC.retF, VC.resV, VC.oneV, VC.evo, VC.bin, VC.binI, VC.cmpI, VC.arithI, VC.ldv, VC.slv, VC.pickP, VC.holds, VC.chainOf, VC.look, VC.junk, VC.put, VC.eff, VC.callee, VC.pureB, VC.rdK, VC.rdKs, VC.okKs, VC.eqKs, VC.fillL, VC.putL, VC.stW, VC.stOK, VC.mixF, VC.setAll, Nat.reduceAdd, Nat.reduceSub, Nat.reduceMul, if_true, if_false, ↓reduceIte, forall_const, implies_true, reduceCtorEq, ne_eq, Nat.reduceBNe, Nat.reduceBEq, IntKind.signed, Nat.reduceEqDiff, Nat.reduceLeDiff, Nat.reduceLT, eq_self, Int.reduceEq, Int.reduceLT, Int.reduceLE, Int.reduceAdd, Int.reduceSub, VC.regC_nil, VC.regC_cons, VC.regCK_eq, VC.callQ, VC.tailQ, VC.goCall, VC.chStep]
        exact ⟨r1, fits_i64_nat (by omega), SAME.intro (by kernel_rfl), m - 1, by omega, k + 1, v, .slice A5 (s.codes.length + 1) c5, by omega, rfl, r2, r3⟩
      · have e7 : (x < 0) = False := eq_false hx0
        have e8 : ((n : Int) ≤ x) = True := eq_true (by omega)
        simp -dsimp only [Fa.F8, e5, e7, e8, rdI_of hc, hc, rdSA_of y3, rdSN_of y3, rdSC_of y3, y3, Nat.zero_add, Nat.mul_one, Int.toNat_natCast, VC.Now, VC.vc, VC.lib, VC.regQ, VC.loopK, VC.reg, VC.opP, VC.pv, VC.thenF, VC.blkF, VC.retF, VC.resV, VC.oneV, VC.evo, VC.bin, VC.binI, VC.cmpI, VC.arithI, VC.ldv, VC.slv, VC.pickP, VC.holds, VC.chainOf, VC.look, VC.junk, VC.put, VC.eff, VC.callee, VC.pureB, VC.rdK, VC.rdKs, VC.okKs, VC.eqKs, VC.fillL, VC.putL, VC.stW, VC.stOK, VC.mixF, VC.setAll, Nat.reduceAdd, Nat.reduceSub, Nat.reduceMul, if_true, if_false, ↓reduceIte, forall_const, implies_true, reduceCtorEq, ne_eq, Nat.reduceBNe, Nat.reduceBEq, IntKind.signed, Nat.reduceEqDiff, Nat.reduceLeDiff, Nat.reduceLT, eq_self, Int.reduceEq, Int.reduceLT, Int.reduceLE, Int.reduceAdd, Int.reduceSub, VC.regC_nil, VC.regC_cons, VC.regCK_eq, VC.callQ, VC.tailQ, VC.goCall, VC.chStep]
        refine ⟨by omega, fun uu => ?_⟩
        refine OPW_appK rfl Fa.apI23 rfl rfl rfl (by simp [Value.oneCell']) hPI.own hPI.out.1 (by omega) (by decide) fun v5 w5 ho5 hg5 hst5 => ?_
        obtain ⟨A5, c5, rfl, _⟩ := id ho5
        obtain ⟨r1, r2, r3⟩ := fin _ _ ho5 hg5 hst5
        simp -dsimp only [Fa.F8, e5, e7, e8, rdI_of hc, hc, rdSA_of y3, rdSN_of y3, rdSC_of y3, y3, Nat.zero_add, Nat.mul_one, Int.toNat_natCast, VC.Now, VC.vc, VC.lib, VC.regQ, VC.loopK, VC.reg, VC.opP, VC.pv, VC.thenF, VC.blkF, VC.retF, VC.resV, VC.oneV, VC.evo, VC.bin, VC.binI, VC.cmpI, VC.arithI, VC.ldv, VC.slv, VC.pickP, VC.holds, VC.chainOf, VC.look, VC.junk, VC.put, VC.eff, VC.callee, VC.pureB, VC.rdK, VC.rdKs, VC.okKs, VC.eqKs, VC.fillL, VC.putL, VC.stW, VC.stOK, VC.mixF, VC.setAll, Nat.reduceAdd, Nat.reduceSub, Nat.reduceMul, if_true, if_false, ↓reduceIte, forall_const, implies_true, reduceCtorEq, ne_eq, Nat.reduceBNe, Nat.reduceBEq, IntKind.signed, Nat.reduceEqDiff, Nat.reduceLeDiff, Nat.reduceLT, eq_self, Int.reduceEq, Int.reduceLT, Int.reduceLE, Int.reduceAdd, Int.reduceSub, VC.regC_nil, VC.regC_cons, VC.regCK_eq, VC.callQ, VC.tailQ, VC.goCall, VC.chStep]
        exact ⟨r1, fits_i64_nat (by omega), SAME.intro (by kernel_rfl), m - 1, by omega, k + 1, v, .slice A5 (s.codes.length + 1) c5, by omega, rfl, r2, r3⟩
  · obtain rfl : k = l.length := by omega
    have e5 : ((l.length : Int) < l.length) = False := eq_false (by omega)
    have y0 := hPI.shop.box.at (i := 0) rfl
    simp -dsimp only [Fa.F8, e5, rdSA_of y0, rdSN_of y0, rdSC_of y0, y0, Nat.zero_add, Nat.mul_one, Int.toNat_natCast, VC.Now, VC.vc, VC.lib, VC.regQ, VC.loopK, VC.reg, VC.opP, VC.pv, VC.thenF, VC.blkF, VC.retF, VC.resV, VC.oneV, VC.evo, VC.bin, VC.binI, VC.cmpI, VC.arithI, VC.ldv, VC.slv, VC.pickP, VC.holds, VC.chainOf, VC.look, VC.junk, VC.put, VC.eff, VC.callee, VC.pureB, VC.rdK, VC.rdKs, VC.okKs, VC.eqKs, VC.fillL, VC.putL, VC.stW, VC.stOK, VC.mixF, VC.setAll, Nat.reduceAdd, Nat.reduceSub, Nat.reduceMul, if_true, if_false, ↓reduceIte, forall_const, implies_true, reduceCtorEq, ne_eq, Nat.reduceBNe, Nat.reduceBEq, IntKind.signed, Nat.reduceEqDiff, Nat.reduceLeDiff, Nat.reduceLT, eq_self, Int.reduceEq, Int.reduceLT, Int.reduceLE, Int.reduceAdd, Int.reduceSub, VC.regC_nil, VC.regC_cons, VC.regCK_eq, VC.callQ, VC.tailQ, VC.goCall, VC.chStep]
    have hP2 := hPI.two
    clear hPI y0
    generalize bst n (fun i => l.getD i 0) l.length = s at *
    refine loop_slots Fa.mix [72] [12, 73, 74, 75, 76, 77, 78, 79, 80, 81, 82, 83, 84, 85, 86, 87, 88, 89, 90, 91, 92, 93, 94, 95, 96, 97] (fun m vs wx => ∃ (k : Nat) (va vt vh : Value), k + m = n ∧ vs = [.int .i64 k] ∧ Below w.heap.size w wx ∧ P2 w.heap.size s0 n v vc va vt vh s k wx) n (by kernel_rfl) rfl
      ⟨0, nilS, nilS, nilS, by omega, rfl, hBx, hP2⟩ ?_
    clear hP2 hBx
    rintro m2 vs2 u2 wx2 ⟨k, va, vt, vh, hkm2, rfl, hBx, h⟩
    have lo := h.lo
    obtain ⟨⟨A0, q0, rfl⟩, ⟨A1, q1, rfl⟩, ⟨A2, q2, rfl⟩, ⟨A3, q3, rfl⟩, ⟨A4, q4, rfl⟩⟩ := h.forms
    by_cases hk2 : k < n
    · have e6 : ((k : Int) < n) = True := eq_true (by omega)
      have c0 : wx2.cell? ⟨w.heap.size + 2, k * 5, none⟩ = some (.int .i64 (s.p k).at') := h.rc.at (j := 0) hk2 (by omega) rfl
      have c1 := h.rc.at (j := 1) hk2 (by omega) rfl
      have c2 := h.rc.at (j := 2) hk2 (by omega) rfl
      have c3 := h.rc.at (j := 3) hk2 (by omega) rfl
      have c4 := h.rc.at (j := 4) hk2 (by omega) rfl
      simp -dsimp only [Fa.F8, e6, Nat.zero_add, Nat.mul_one, Int.toNat_natCast, rdI_of c0, c0, rdI_of c1, c1, rdI_of c2, c2, rdI_of c3, c3, rdB_of c4, c4, VC.Now, VC.vc, VC.lib, VC.regQ, VC.loopK, VC.reg, VC.opP, VC.pv, VC.thenF, VC.blkF, VC.retF, VC.resV, VC.oneV, VC.evo, VC.bin, VC.binI, VC.cmpI, VC.arithI, VC.ldv, VC.slv, VC.pickP, VC.holds, VC.chainOf, VC.look, VC.junk, VC.put, VC.eff, VC.callee, VC.pureB, VC.rdK, VC.rdKs, VC.okKs, VC.eqKs, VC.fillL, VC.putL, VC.mixF, VC.setAll, Nat.reduceAdd, Nat.reduceSub, Nat.reduceMul, if_true, if_false, ↓reduceIte, forall_const, implies_true, reduceCtorEq, ne_eq, Nat.reduceBNe, Nat.reduceBEq, IntKind.signed, Nat.reduceEqDiff, Nat.reduceLeDiff, Nat.reduceLT, eq_self, Int.reduceEq, Int.reduceLT, Int.reduceLE, Int.reduceAdd, Int.reduceSub, VC.regC_nil, VC.regC_cons, VC.regCK_eq, VC.callQ, VC.tailQ, VC.goCall, VC.chStep]
      have hz := OwnK.lit (B := s0 + 2) wx2 81 5 1 [.int .i64 0, .int .i64 0, .int .i64 0, .int .i64 0, .bool false] h.out.1 (by decide) rfl
      have hq0 := Box.new wx2 [.int .i64 0, .int .i64 0, .int .i64 0, .int .i64 0, .bool false] 81
      obtain ⟨ok1, hq⟩ := hq0.stAll (vs := prC (s.p k)) rfl (by intro x hx; simp at hx; rcases hx with rfl | rfl | rfl | rfl | rfl <;> rfl)
      have hp := hz.stAll (vs := prC (s.p k)) rfl
      have hBp : Below wx2.heap.size wx2 (stW (wx2.alloc (.cells #[.int .i64 0, .int .i64 0, .int .i64 0, .int .i64 0, .bool false] 81)) ⟨wx2.heap.size, 0, none⟩ 0 (prC (s.p k))) :=
        (stW_agree (X := fun j => j = wx2.heap.size) rfl _ _ _).to_below (below_box (Below.refl _ _) _) (by simp) fun j hj => by omega
      refine ⟨by omega, ok1, ?_⟩
      clear hz hq0 ok1
      change Box (stW (wx2.alloc (.cells #[.int .i64 0, .int .i64 0, .int .i64 0, .int .i64 0, .bool false] 81)) ⟨wx2.heap.size, 0, none⟩ 0 (prC (s.p k))) _ _ at hq
      change OwnK (stW (wx2.alloc (.cells #[.int .i64 0, .int .i64 0, .int .i64 0, .int .i64 0, .bool false] 81)) ⟨wx2.heap.size, 0, none⟩ 0 (prC (s.p k))) _ _ _ _ _ _ at hp
      generalize hwy : stW (wx2.alloc (.cells #[.int .i64 0, .int .i64 0, .int .i64 0, .int .i64 0, .bool false] 81)) ⟨wx2.heap.size, 0, none⟩ 0 (prC (s.p k)) = wy at *
      have hsz : wx2.heap.size < wy.heap.size := hq.1
      have hso : s0 + 1 < wx2.heap.size := h.out.1
      have hbo := h.out.below hBp
      have o1 := hbo.at (i := 1) rfl
      have o2 := hbo.at (i := 2) rfl
      have o3 := hbo.at (i := 3) rfl
      have x0 := hq.at (i := 0) rfl
      refine WP_held 19 (fun j => s0 + 2 ≤ j ∧ j ≠ wx2.heap.size) (.take 0 (.take 1 (.take 2 (.take 3 (.take 6 (.take 7 (.take 12 (.take 13 (.any [4,5,8,9,10,11,14,15,16,17,18] (.last 19 (.take 20 (.one 21 (.take 22 (.one 23 .done)))))))))))))) Fa.mix (by kernel_rfl) rfl ?_
      simp -dsimp only [VC.heldF_done, VC.heldF_last, VC.planF_done, VC.planF_take, VC.planF_one, VC.planF_two, VC.planK_eq, VC.heldF_take, VC.heldF_one, VC.heldK_eq, VC.okRd, Fa.F8, rdSA_of o1, rdSN_of o1, rdSC_of o1, o1, rdSA_of o2, rdSN_of o2, rdSC_of o2, o2, rdSA_of o3, rdSN_of o3, rdSC_of o3, o3, rdI_of x0, x0, VC.Now, VC.vc, VC.lib, VC.regQ, VC.loopK, VC.reg, VC.opP, VC.pv, VC.thenF, VC.blkF, VC.retF, VC.resV, VC.oneV, VC.evo, VC.bin, VC.binI, VC.cmpI, VC.arithI, VC.ldv, VC.slv, VC.pickP, VC.holds, VC.chainOf, VC.look, VC.junk, VC.put, VC.eff, VC.callee, VC.pureB, VC.rdK, VC.rdKs, VC.okKs, VC.eqKs, VC.fillL, VC.putL, VC.mixF, VC.setAll, Nat.reduceAdd, Nat.reduceSub, Nat.reduceMul, if_true, if_false, ↓reduceIte, forall_const, implies_true, reduceCtorEq, ne_eq, Nat.reduceBNe, Nat.reduceBEq, IntKind.signed, Nat.reduceEqDiff, Nat.reduceLeDiff, Nat.reduceLT, eq_self, Int.reduceEq, Int.reduceLT, Int.reduceLE, Int.reduceAdd, Int.reduceSub, VC.regC_nil, VC.regC_cons, VC.regCK_eq, VC.callQ, VC.tailQ, VC.goCall, VC.chStep]
      refine ⟨⟨by omega, by omega⟩, hsz, ⟨by omega, by omega⟩, ⟨by omega, by omega⟩, ?_⟩
      refine three_any (f0 := _) (v := .slice A0 s.inn.length q0) (vc := .slice A1 s.codes.length q1) (va := .slice A2 k q2) (vt := .slice A3 k q3) (vh := .slice A4 k q4) (s := s) (k := k) (wA := wy) (.mk0 rfl rfl rfl) (.mk1 rfl rfl rfl (by first | rfl | kernel_rfl)) (.mk0 rfl rfl rfl) (.mk1 rfl rfl rfl (by first | rfl | kernel_rfl)) (.mk1 rfl rfl rfl (by first | rfl | kernel_rfl)) (.mk1 rfl rfl rfl (by first | rfl | kernel_rfl)) (.mk0 rfl rfl rfl) (.mk1 rfl rfl rfl (by first | rfl | kernel_rfl)) (.mk1 rfl rfl rfl (by first | rfl | kernel_rfl)) (.mk1 rfl rfl rfl (by first | rfl | kernel_rfl)) (.mk0 rfl rfl rfl)
        (Nat.le_of_ble_eq_true rfl) rfl rfl rfl rfl rfl rfl (by omega) ?_ ?_
      · exact JJ.start h hBp hp _
      · intro g w1 A5 c5 A6 c6 A7 c7 e81 e87 e93 a18 hJ
        have hb := (JJ.next h hBp rfl hJ).1
        have hN := (JJ.next h hBp rfl hJ).2
        have ag := hJ.ag
        clear hJ
        have k1 : (w1.cell? ⟨s0 + 1, 1, none⟩).isSome = true ∧ w1.frozen? ⟨s0 + 1, 1, none⟩ = false := ⟨by rw [hb.at (i := 1) rfl]; rfl, hb.soft (by show 1 < 5; omega)⟩
        have hb2 := hb.set 1 (.slice A5 (k + 1) c5)
        have k2 : ((w1.setCell ⟨s0 + 1, 1, none⟩ (.slice A5 (k + 1) c5)).cell? ⟨s0 + 1, 2, none⟩).isSome = true ∧ (w1.setCell ⟨s0 + 1, 1, none⟩ (.slice A5 (k + 1) c5)).frozen? ⟨s0 + 1, 2, none⟩ = false := ⟨by rw [hb2.at (i := 2) rfl]; rfl, hb2.soft (by show 2 < 5; omega)⟩
        have hb3 := hb2.set 2 (.slice A6 (k + 1) c6)
        have k3 : (((w1.setCell ⟨s0 + 1, 1, none⟩ (.slice A5 (k + 1) c5)).setCell ⟨s0 + 1, 2, none⟩ (.slice A6 (k + 1) c6)).cell? ⟨s0 + 1, 3, none⟩).isSome = true ∧ ((w1.setCell ⟨s0 + 1, 1, none⟩ (.slice A5 (k + 1) c5)).setCell ⟨s0 + 1, 2, none⟩ (.slice A6 (k + 1) c6)).frozen? ⟨s0 + 1, 3, none⟩ = false := ⟨by rw [hb3.at (i := 3) rfl]; rfl, hb3.soft (by show 3 < 5; omega)⟩
        rw [e81, e87, e93] at hN
        simp -dsimp only [VC.heldF_done, VC.heldF_last, VC.planF_done, VC.planF_take, VC.planF_one, VC.planF_two, VC.planK_eq, VC.heldF_take, VC.heldF_one, VC.heldK_eq, VC.okRd, Fa.F8, VC.setD, e81, e87, e93, a18, VC.Now, VC.vc, VC.lib, VC.regQ, VC.loopK, VC.reg, VC.opP, VC.pv, VC.thenF, VC.blkF, VC.retF, VC.resV, VC.oneV, VC.evo, VC.bin, VC.binI, VC.cmpI, VC.arithI, VC.ldv, VC.slv, VC.pickP, VC.holds, VC.chainOf, VC.look, VC.junk, VC.put, VC.eff, VC.callee, VC.pureB, VC.rdK, VC.rdKs, VC.okKs, VC.eqKs, VC.fillL, VC.putL, VC.stW, VC.stOK, VC.mixF, VC.setAll, Nat.reduceAdd, Nat.reduceSub, Nat.reduceMul, if_true, if_false, ↓reduceIte, forall_const, implies_true, reduceCtorEq, ne_eq, Nat.reduceBNe, Nat.reduceBEq, IntKind.signed, Nat.reduceEqDiff, Nat.reduceLeDiff, Nat.reduceLT, eq_self, Int.reduceEq, Int.reduceLT, Int.reduceLE, Int.reduceAdd, Int.reduceSub, VC.regC_nil, VC.regC_cons, VC.regCK_eq, VC.callQ, VC.tailQ, VC.goCall, VC.chStep]
        have hB1 : Below w.heap.size w (((w1.setCell ⟨s0 + 1, 1, none⟩ (.slice A5 (k + 1) c5)).setCell ⟨s0 + 1, 2, none⟩ (.slice A6 (k + 1) c6)).setCell ⟨s0 + 1, 3, none⟩ (.slice A7 (k + 1) c7)) :=
          ((((ag.mono (Y := fun j => w.heap.size ≤ j) fun j _ hj => by omega).trans (Agree.setCell _ (a := ⟨s0 + 1, 1, none⟩) _ (show w.heap.size ≤ s0 + 1 by omega))).trans (Agree.setCell _ (a := ⟨s0 + 1, 2, none⟩) _ (show w.heap.size ≤ s0 + 1 by omega))).trans (Agree.setCell _ (a := ⟨s0 + 1, 3, none⟩) _ (show w.heap.size ≤ s0 + 1 by omega))).to_below (hBx.trans (hBp.mono hBx.size)) (Nat.le_trans hBx.size hBp.size) fun j hj => hj
        exact ⟨k1, k2, k3, fits_i64_nat (by omega), SAME.intro (by kernel_rfl), m2 - 1, by omega, k + 1, _, _, _, by omega, rfl, hB1, hN⟩
    · obtain rfl : k = n := by omega
      have e6 : ((k : Int) < k) = False := eq_false (by omega)
      have y0 := h.sb.at (i := 1) rfl
      have hb1 := h.out.set 4 (.slice A0 s.inn.length q0)
      have hr1 := h.res.far (a := ⟨s0 + 1, 4, none⟩) (by show s0 + 1 ≠ w.heap.size; omega) (.slice A0 s.inn.length q0)
      obtain ⟨ok2, hb2⟩ := hr1.stAll (vs := [.slice A1 s.codes.length q1, .slice A2 k q2, .slice A3 k q3, .slice A4 k q4, .slice A0 s.inn.length q0]) rfl (by intro x hx; simp at hx; rcases hx with rfl | rfl | rfl | rfl | rfl <;> rfl)
      have p0 := hb1.at (i := 0) rfl
      have p1 := hb1.at (i := 1) rfl
      have p2 := hb1.at (i := 2) rfl
      have p3 := hb1.at (i := 3) rfl
      have p4 := hb1.at (i := 4) rfl
      have r0 := hb2.at (i := 0) rfl
      have r1 := hb2.at (i := 1) rfl
      have r2 := hb2.at (i := 2) rfl
      have r3 := hb2.at (i := 3) rfl
      have r4 := hb2.at (i := 4) rfl
      have hag : Agree (fun j => j = s0 + 1) wx2 (wx2.setCell ⟨s0 + 1, 4, none⟩ (.slice A0 s.inn.length q0)) := Agree.setCell _ _ rfl
      have hag2 : Agree (fun j => j = s0 + 1 ∨ j = w.heap.size) wx2 (stW (wx2.setCell ⟨s0 + 1, 4, none⟩ (.slice A0 s.inn.length q0)) ⟨w.heap.size, 0, none⟩ 0 [.slice A1 s.codes.length q1, .slice A2 k q2, .slice A3 k q3, .slice A4 k q4, .slice A0 s.inn.length q0]) :=
        (hag.mono fun j _ hj => Or.inl hj).trans (stW_agree (Or.inr rfl) _ _ _)
      have hF := h.fam.agree hag2 fun j _ hj => by rcases hj with hj | hj <;> omega
      have hok : (wx2.cell? ⟨s0 + 1, 4, none⟩).isSome = true ∧ wx2.frozen? ⟨s0 + 1, 4, none⟩ = false := ⟨by rw [h.out.at (i := 4) rfl]; rfl, h.out.soft (by show 4 < 5; omega)⟩
      simp -dsimp only [Fa.F8, e6, Nat.zero_add, Nat.mul_one, Int.toNat_natCast, rdSA_of y0, rdSN_of y0, rdSC_of y0, y0, VC.stW_one, VC.stOK_one, rdSA_of p0, rdSN_of p0, rdSC_of p0, p0, rdSA_of p1, rdSN_of p1, rdSC_of p1, p1, rdSA_of p2, rdSN_of p2, rdSC_of p2, p2, rdSA_of p3, rdSN_of p3, rdSC_of p3, p3, rdSA_of p4, rdSN_of p4, rdSC_of p4, p4, rdSA_of r0, rdSN_of r0, rdSC_of r0, r0, rdSA_of r1, rdSN_of r1, rdSC_of r1, r1, rdSA_of r2, rdSN_of r2, rdSC_of r2, r2, rdSA_of r3, rdSN_of r3, rdSC_of r3, r3, rdSA_of r4, rdSN_of r4, rdSC_of r4, r4, VC.Now, VC.vc, VC.lib, VC.regQ, VC.loopK, VC.reg, VC.opP, VC.pv, VC.thenF, VC.blkF, VC.retF, VC.resV, VC.oneV, VC.evo, VC.bin, VC.binI, VC.cmpI, VC.arithI, VC.ldv, VC.slv, VC.pickP, VC.holds, VC.chainOf, VC.look, VC.junk, VC.put, VC.eff, VC.callee, VC.pureB, VC.rdK, VC.rdKs, VC.okKs, VC.eqKs, VC.fillL, VC.putL, VC.mixF, VC.setAll, Nat.reduceAdd, Nat.reduceSub, Nat.reduceMul, if_true, if_false, ↓reduceIte, forall_const, implies_true, reduceCtorEq, ne_eq, Nat.reduceBNe, Nat.reduceBEq, IntKind.signed, Nat.reduceEqDiff, Nat.reduceLeDiff, Nat.reduceLT, eq_self, Int.reduceEq, Int.reduceLT, Int.reduceLE, Int.reduceAdd, Int.reduceSub, VC.regC_nil, VC.regC_cons, VC.regCK_eq, VC.callQ, VC.tailQ, VC.goCall, VC.chStep]
      refine ⟨hok, ok2, _, rfl, ⟨_, _, _, _, _, rfl, OwnK.sv (hF.1 1 _ rfl), OwnK.sv (hF.1 2 _ rfl), OwnK.sv (hF.1 3 _ rfl), OwnK.sv (hF.1 4 _ rfl), OwnK.sv (hF.1 0 _ rfl)⟩, hag2.to_below hBx hBx.size fun j hj => by rcases hj with hj | hj <;> omega⟩
end Go.Proofs.Ytnggjekppdlaoaa
