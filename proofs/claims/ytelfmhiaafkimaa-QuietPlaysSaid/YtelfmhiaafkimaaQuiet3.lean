/- When all rests: what a step does. -/
import Derived.Test.YtelfmhiaafkimaaQuiet2
namespace Go.Proofs.Ytelfmhiaafkimaa
open Go Go.RowKit Go.VC
set_option linter.unusedSimpArgs false
set_option linter.unusedVariables false
abbrev calmL (c : CalmC) : List Value := [.int .i64 c.kind, .int .i64 c.who, .int .i64 c.other]
abbrev calmV (c : CalmC) : Value := .agg #[.int .i64 c.kind, .int .i64 c.who, .int .i64 c.other]

set_option maxRecDepth 8000 in
set_option maxHeartbeats 8000000 in
noncomputable def doesBut : { P : Prop // P → ∀ (B n : Nat) (a : QA) (s : QS) (q : QM) (w : World), Hp B (QObs n a s q) w → QR n s q → ∀ (A D : Nat), QB A D s → A ≤ 1000 → D ≤ 1000 → n ≤ 6 → q.ka ≤ 1000 → q.kc ≤ 1000 → ∀ (c : CalmC) (x : Nat), c.who = x → x < n → 1 ≤ c.kind → c.kind ≤ 4 → (c.kind ≠ 3 → ∃ y : Nat, c.other = y ∧ y < n) →
    Calls Try.prog 89 #[ptrV a.wb, calmV c] w (QPost B n a s q w 1 (.int .i64 (qdoes x c.other.toNat c.kind s).1) (qdoes x c.other.toNat c.kind s).2) } := by
  refine ⟨?P3 ∧ True, fun HH B n a s q w h hq A D hb hA hD hn hka hkc c x hx0 hxn hkl hkh hot => ?body⟩
  case body =>
    have x0 := Box.new w (calmL c) 131
    have hB0 : Below w.heap.size w (w.alloc (.cells (calmL c).toArray 131)) := (Below.refl _ _).alloc (Nat.le_refl _) _
    have hsz : (w.alloc (.cells (calmL c).toArray 131)).heap.size = w.heap.size + 1 := by simp
    refine calls_vc (rs := [.tmp 4]) Fa.mix Try.func89 rfl Try.ntmps89 rfl (by kernel_rfl) (Nat.le_of_ble_eq_true rfl) ?_
    (repeat rw [vc_seq]); refine vc_plain _ fun Q hQ => ?_; simp -dsimp only [Fa.F89, VC.Now, VC.vc_skip, VC.vc_ret, VC.vc_exit, VC.vc_block, VC.vc_cond, VC.vc_region, VC.lib, VC.mapN_drewN, VC.mapB_drewN, VC.regQ, VC.loopK, VC.reg, VC.opP, VC.opS, VC.opZ, VC.nomulB, VC.pv, VC.thenF, VC.blkF, VC.retF, VC.resV, VC.oneV, VC.evo, VC.bin, VC.binI, VC.cmpI, VC.arithI, VC.ldv, VC.slv, VC.pickP, VC.holds, VC.chainOf, VC.look, VC.junk, VC.put, VC.eff, VC.callee, VC.pureB, VC.rdK, VC.rdKs, VC.okKs, VC.eqKs, VC.fillL, VC.putL, VC.stW, VC.stOK, VC.mixF, VC.setAll, Nat.reduceAdd, Nat.reduceSub, Nat.reduceMul, if_true, if_false, ↓reduceIte, forall_const, implies_true, reduceCtorEq, ne_eq, Nat.reduceBNe, Nat.reduceBEq, IntKind.signed, Nat.reduceEqDiff, Nat.reduceLeDiff, Nat.reduceLT, eq_self, Int.reduceEq, Int.reduceLT, Int.reduceLE, Int.reduceAdd, Int.reduceSub, VC.regC_nil, VC.regC_cons, VC.regCK_eq, VC.callQ, VC.tailQ, VC.goCall, VC.chStep]
    change Q _ _ (w.alloc (.cells (calmL c).toArray 131))
    generalize w.alloc (.cells (calmL c).toArray 131) = w1 at x0 hB0 hsz ⊢
    generalize hsb : w.heap.size = sb at x0 hsz ⊢
    have h1 := h.below hB0
    have bw : Box w1 a.wb (worldQ n a s.done) := h1.get 0 rfl
    have m0 := bw.at (i := 0) rfl
    have hwl := bw.1
    have hr : Recs w1 a.gv n 4 (fun i => prL (s.pr i)) := h1.get 1 rfl
    have hgl := hr.1
    have z0 := x0.at (i := 0) rfl
    have z1 := x0.at (i := 1) rfl
    have z2 := x0.at (i := 2) rfl
    rw [hx0] at z1
    have hxl := x0.1
    have e0 : (x : Int) < n := by omega
    subst hQ
    simp -dsimp only [Fa.F89, VC.Now, VC.vc_skip, VC.vc_ret, VC.vc_exit, VC.vc_block, VC.vc_cond, VC.vc_region, VC.lib, VC.mapN_drewN, VC.mapB_drewN, VC.regQ, VC.loopK, VC.reg, VC.opP, VC.opS, VC.opZ, VC.nomulB, VC.pv, VC.thenF, VC.blkF, VC.retF, VC.resV, VC.oneV, VC.evo, VC.bin, VC.binI, VC.cmpI, VC.arithI, VC.ldv, VC.slv, VC.pickP, VC.holds, VC.chainOf, VC.look, VC.junk, VC.put, VC.eff, VC.callee, VC.pureB, VC.rdK, VC.rdKs, VC.okKs, VC.eqKs, VC.fillL, VC.putL, VC.stW, VC.stOK, VC.mixF, VC.setAll, Nat.reduceAdd, Nat.reduceSub, Nat.reduceMul, if_true, if_false, ↓reduceIte, forall_const, implies_true, reduceCtorEq, ne_eq, Nat.reduceBNe, Nat.reduceBEq, IntKind.signed, Nat.reduceEqDiff, Nat.reduceLeDiff, Nat.reduceLT, eq_self, Int.reduceEq, Int.reduceLT, Int.reduceLE, Int.reduceAdd, Int.reduceSub, VC.regC_nil, VC.regC_cons, VC.regCK_eq, VC.callQ, VC.tailQ, VC.goCall, VC.chStep]
    (repeat rw [vc_seq]); refine vc_plain _ fun Q hQ => ?_; simp -dsimp only [Fa.F89, rdSA_of m0, rdSN_of m0, rdSC_of m0, m0, rdI_of z1, z1, hwl, hxl, Int.toNat_natCast, Nat.zero_add, VC.Now, VC.vc_skip, VC.vc_ret, VC.vc_exit, VC.vc_block, VC.vc_cond, VC.vc_region, VC.lib, VC.mapN_drewN, VC.mapB_drewN, VC.regQ, VC.loopK, VC.reg, VC.opP, VC.opS, VC.opZ, VC.nomulB, VC.pv, VC.thenF, VC.blkF, VC.retF, VC.resV, VC.oneV, VC.evo, VC.bin, VC.binI, VC.cmpI, VC.arithI, VC.ldv, VC.slv, VC.pickP, VC.holds, VC.chainOf, VC.look, VC.junk, VC.put, VC.eff, VC.callee, VC.pureB, VC.rdK, VC.rdKs, VC.okKs, VC.eqKs, VC.fillL, VC.putL, VC.stW, VC.stOK, VC.mixF, VC.setAll, Nat.reduceAdd, Nat.reduceSub, Nat.reduceMul, if_true, if_false, ↓reduceIte, forall_const, implies_true, reduceCtorEq, ne_eq, Nat.reduceBNe, Nat.reduceBEq, IntKind.signed, Nat.reduceEqDiff, Nat.reduceLeDiff, Nat.reduceLT, eq_self, Int.reduceEq, Int.reduceLT, Int.reduceLE, Int.reduceAdd, Int.reduceSub, VC.regC_nil, VC.regC_cons, VC.regCK_eq, VC.callQ, VC.tailQ, VC.goCall, VC.chStep]
    refine ⟨⟨by omega, by omega⟩, fun m => ?_⟩
    subst hQ
    simp -dsimp only [Fa.F89, VC.Now, VC.vc_skip, VC.vc_ret, VC.vc_exit, VC.vc_block, VC.vc_cond, VC.vc_region, VC.lib, VC.mapN_drewN, VC.mapB_drewN, VC.regQ, VC.loopK, VC.reg, VC.opP, VC.opS, VC.opZ, VC.nomulB, VC.pv, VC.thenF, VC.blkF, VC.retF, VC.resV, VC.oneV, VC.evo, VC.bin, VC.binI, VC.cmpI, VC.arithI, VC.ldv, VC.slv, VC.pickP, VC.holds, VC.chainOf, VC.look, VC.junk, VC.put, VC.eff, VC.callee, VC.pureB, VC.rdK, VC.rdKs, VC.okKs, VC.eqKs, VC.fillL, VC.putL, VC.stW, VC.stOK, VC.mixF, VC.setAll, Nat.reduceAdd, Nat.reduceSub, Nat.reduceMul, if_true, if_false, ↓reduceIte, forall_const, implies_true, reduceCtorEq, ne_eq, Nat.reduceBNe, Nat.reduceBEq, IntKind.signed, Nat.reduceEqDiff, Nat.reduceLeDiff, Nat.reduceLT, eq_self, Int.reduceEq, Int.reduceLT, Int.reduceLE, Int.reduceAdd, Int.reduceSub, VC.regC_nil, VC.regC_cons, VC.regCK_eq, VC.callQ, VC.tailQ, VC.goCall, VC.chStep]
    (repeat rw [vc_seq]); refine vc_plain _ fun Q hQ => ?_; simp -dsimp only [Fa.F89, VC.Now, VC.vc_skip, VC.vc_ret, VC.vc_exit, VC.vc_block, VC.vc_cond, VC.vc_region, VC.lib, VC.mapN_drewN, VC.mapB_drewN, VC.regQ, VC.loopK, VC.reg, VC.opP, VC.opS, VC.opZ, VC.nomulB, VC.pv, VC.thenF, VC.blkF, VC.retF, VC.resV, VC.oneV, VC.evo, VC.bin, VC.binI, VC.cmpI, VC.arithI, VC.ldv, VC.slv, VC.pickP, VC.holds, VC.chainOf, VC.look, VC.junk, VC.put, VC.eff, VC.callee, VC.pureB, VC.rdK, VC.rdKs, VC.okKs, VC.eqKs, VC.fillL, VC.putL, VC.stW, VC.stOK, VC.mixF, VC.setAll, Nat.reduceAdd, Nat.reduceSub, Nat.reduceMul, if_true, if_false, ↓reduceIte, forall_const, implies_true, reduceCtorEq, ne_eq, Nat.reduceBNe, Nat.reduceBEq, IntKind.signed, Nat.reduceEqDiff, Nat.reduceLeDiff, Nat.reduceLT, eq_self, Int.reduceEq, Int.reduceLT, Int.reduceLE, Int.reduceAdd, Int.reduceSub, VC.regC_nil, VC.regC_cons, VC.regCK_eq, VC.callQ, VC.tailQ, VC.goCall, VC.chStep]
    have hBm : Below w.heap.size w (w1.drewN m) := hB0.trans ((below_drewN (Below.refl _ w1) m).mono hB0.size)
    have h2 := h1.drewN m
    replace x0 := x0.below (below_drewN (Below.refl _ w1) m)
    replace hsz : (w1.drewN m).heap.size = sb + 1 := hsz
    clear bw m0 hwl hr hgl z0 z1 z2 hxl h1 hB0
    generalize w1.drewN m = w2 at h2 hBm x0 hsz ⊢
    have z0 := x0.at (i := 0) rfl
    have z1 := x0.at (i := 1) rfl
    have z2 := x0.at (i := 2) rfl
    rw [hx0] at z1
    have hxl := x0.1
    refine (fun hrest : (∀ (hb' tb : Nat) (w3 : World), Below w2.heap.size w2 w3 → Box w3 hb' [.int .i64 c.other, .int .i64 x] → Box w3 tb [.int .i64 x, .int .i64 c.other] → sb < hb' → sb < tb → Q Exit.normal ((?F3 : Nat → Nat → Array Value) hb' tb) w3) => ?main) ?rest
    case main =>
      refine WP_held 99 (fun j => w2.heap.size ≤ j) (.take 0 (.take 1 (.take 2 (.take 3 (.take 4 (.take 5 (.take 6 (.take 7 (.take 8 (.take 9 (.two 10 (.one 11 (.one 12 (.one 13 .done))) 11 (.one 10 (.one 12 (.one 13 .done)))))))))))))) Fa.mix (by kernel_rfl) rfl ?_
      simp -dsimp only [VC.heldF_done, VC.heldF_last, VC.planF_done, VC.planF_take, VC.planF_one, VC.planF_two, VC.planK_eq, VC.heldF_take, VC.heldF_one, VC.heldF_two, VC.heldF_twoL, VC.heldK_eq, VC.okRd, Fa.F89, rdI_of z1, z1, rdI_of z2, z2, hxl, VC.Now, VC.vc, VC.lib, VC.mapN_drewN, VC.mapB_drewN, VC.regQ, VC.loopK, VC.reg, VC.opP, VC.opS, VC.opZ, VC.nomulB, VC.pv, VC.thenF, VC.blkF, VC.retF, VC.resV, VC.oneV, VC.evo, VC.bin, VC.binI, VC.cmpI, VC.arithI, VC.ldv, VC.slv, VC.pickP, VC.holds, VC.chainOf, VC.look, VC.junk, VC.put, VC.eff, VC.callee, VC.pureB, VC.rdK, VC.rdKs, VC.okKs, VC.eqKs, VC.fillL, VC.putL, VC.mixF, VC.setAll, Nat.reduceAdd, Nat.reduceSub, Nat.reduceMul, if_true, if_false, ↓reduceIte, forall_const, implies_true, reduceCtorEq, ne_eq, Nat.reduceBNe, Nat.reduceBEq, IntKind.signed, Nat.reduceEqDiff, Nat.reduceLeDiff, Nat.reduceLT, eq_self, Int.reduceEq, Int.reduceLT, Int.reduceLE, Int.reduceAdd, Int.reduceSub, VC.regC_nil, VC.regC_cons, VC.regCK_eq, VC.callQ, VC.tailQ, VC.goCall, VC.chStep]
      have hd1 : Below w2.heap.size w2 (w2.drewN 1) := below_drewN (Below.refl _ w2) 1
      have hN1 := (Hp.nil (B := w2.heap.size) (w := w2.drewN 1) (Nat.le_refl _)).st_add (o := oBox w2.heap.size [.int .i64 0, .int .i64 0]) ((Below.refl _ _).alloc (Nat.le_refl _) (.cells #[.int .i64 0, .int .i64 0] 135)) (Box.new (w2.drewN 1) _ _) (fun g hg => by cases hg; exact Nat.le_refl _)
      have hB1 : Below w2.heap.size w2 ((w2.drewN 1).alloc (.cells #[.int .i64 0, .int .i64 0] 135)) := hd1.alloc (Nat.le_refl _) _
      have hz1 : ((w2.drewN 1).alloc (.cells #[.int .i64 0, .int .i64 0] 135)).heap.size = w2.heap.size + 1 := by simp
      generalize (w2.drewN 1).alloc (.cells #[.int .i64 0, .int .i64 0] 135) = n1 at hN1 hB1 hz1 ⊢
      have hN2 := hN1.hp.st_add (o := oBox n1.heap.size [.int .i64 0, .int .i64 0]) ((Below.refl _ _).alloc (Nat.le_refl _) (.cells #[.int .i64 0, .int .i64 0] 135)) (Box.new n1 _ _) (fun g hg => by cases hg; exact Nat.le_refl _)
      have hB2 : Below w2.heap.size w2 (n1.alloc (.cells #[.int .i64 0, .int .i64 0] 135)) := hB1.alloc hB1.size _
      have hN := hN2.hp
      change Hp _ _ (n1.alloc (.cells #[.int .i64 0, .int .i64 0] 135)) at hN
      rw [hz1] at hN
      generalize n1.alloc (.cells #[.int .i64 0, .int .i64 0] 135) = n2 at hN hB2 ⊢
      have agB : ∀ {w'}, Below w2.heap.size w2 w' → Agree (fun j => w2.heap.size ≤ j) w2 w' := fun h => Agree.of_below h
      clear hN1 hN2
      (repeat refine ⟨by first | assumption | omega, ?_⟩)
      refine ⟨?_, ?_⟩
      · obtain ⟨o1, s1⟩ := hN.allBox 1 rfl (vs := [.int .i64 c.other, .int .i64 x]) rfl (by intro v hv; simp at hv; rcases hv with rfl | rfl <;> rfl)
        obtain ⟨o2, s2⟩ := s1.hp.allBox 0 rfl (vs := [.int .i64 x, .int .i64 c.other]) rfl (by intro v hv; simp at hv; rcases hv with rfl | rfl <;> rfl)
        have hE1 := hB2.trans (s1.below hN)
        have hE2 := hE1.trans (s2.below s1.hp)
        refine ⟨agB hB1, agB hB2, o1, agB hE1, o2, agB hE2, ?_⟩
        have b1 := s2.hp.get 1 rfl
        have b2 := s2.hp.get 0 rfl
        generalize stW (stW n2 _ _ _) _ _ _ = n4 at *
        generalize hzA : w2.heap.size = zA at b1 b2 ⊢
        generalize hzB : zA + 1 = zB at b1 b2 ⊢
        exact hrest zA zB n4 hE2 b1 b2 (by omega) (by omega)
      · obtain ⟨o1, s1⟩ := hN.allBox 0 rfl (vs := [.int .i64 c.other, .int .i64 x]) rfl (by intro v hv; simp at hv; rcases hv with rfl | rfl <;> rfl)
        obtain ⟨o2, s2⟩ := s1.hp.allBox 1 rfl (vs := [.int .i64 x, .int .i64 c.other]) rfl (by intro v hv; simp at hv; rcases hv with rfl | rfl <;> rfl)
        have hE1 := hB2.trans (s1.below hN)
        have hE2 := hE1.trans (s2.below s1.hp)
        refine ⟨agB hB1, agB hB2, o1, agB hE1, o2, agB hE2, ?_⟩
        have b1 := s2.hp.get 0 rfl
        have b2 := s2.hp.get 1 rfl
        generalize stW (stW n2 _ _ _) _ _ _ = n4 at *
        generalize hzA : w2.heap.size = zA at b1 b2 ⊢
        generalize hzB : zA + 1 = zB at b1 b2 ⊢
        exact hrest zB zA n4 hE2 b1 b2 (by omega) (by omega)
    intro hb' tb w3 hB3 bh bt hlh hlt
    have hB := hBm.trans (hB3.mono (by omega))
    have h3 := h2.below hB3
    replace x0 := x0.below hB3
    clear hB3 z0 z1 z2 hxl h2 hBm w2 hsz
    revert B n a s q w A D c x w1 sb m Q hb' tb w3
    exact HH.1
end Go.Proofs.Ytelfmhiaafkimaa
