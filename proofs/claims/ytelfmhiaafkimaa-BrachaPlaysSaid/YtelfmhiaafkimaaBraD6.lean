/- One word for all, the document: its run. -/
import Derived.Test.YtelfmhiaafkimaaBraD5
import Derived.Test.YtelfmhiaafkimaaBra7
namespace Go.Proofs.Ytelfmhiaafkimaa
open Go Go.RowKit Go.VC
set_option linter.unusedSimpArgs false
set_option linter.unusedVariables false
noncomputable abbrev LD (n f liars sender sb t b7 rb : Nat) (s : BS) (va vk vc hv vv : Value) (codes : List Int) (j : Nat) : List Ob :=
  [oOwn 4 1 j hv (hasL s j), oOwn 2 1 j vv (valL s j)] ++ ([oOwn 24 1 t vc (codes.map (Value.int .i64)), oBox b7 [vc, hv, vv, iV 0, iV 0], oBox rb z5] ++ SObs n f liars sender sb s va vk)
set_option maxRecDepth 8000 in
set_option maxHeartbeats 8000000 in
noncomputable def braDBut : { P : Prop // P → ∀ (n f liars sender : Nat) (A2 : Option Addr) (len cap : Nat) (g : Nat → SprC) (w : World), RdT w A2 len 6 (fun i => sprL (g i)) → (∀ i, fits .i64 (g i).n) → 1 ≤ n → n ≤ 7 → f ≤ (n - 1) / 3 → liars < 2 ^ n → sender < n → len ≤ 120 →
    Calls Try.prog 38 #[iV n, iV f, .int .u32 liars, iV sender, .slice A2 len cap] w fun e w' => ∃ v, e = .returned v ∧ (∀ w'', Agree (fun j => j < w.heap.size) w' w'' → TolQ n len ((List.range len).map (bcode n f liars sender g)) (bst n f liars sender g len) v w'') ∧ Below w.heap.size w w' } := by
  refine ⟨?P3 ∧ True, fun HH => ?body⟩
  case body =>
  intro n f liars sender A2 len cap g w hr hgf h1 hn hf3 hliars hs hlen
  have hf : f ≤ 2 := by omega
  have hl : liars < 4294967296 := Nat.lt_of_lt_of_le hliars (Nat.le_trans (Nat.pow_le_pow_right (by omega) hn) (by decide))
  have hB0 : Below w.heap.size w (w.alloc (.cells #[nilS, nilS, nilS, iV 0, iV 0] 88)) := (Below.refl _ _).alloc (Nat.le_refl _) _
  have hH0 := (Hp.nil (B := w.heap.size) (Nat.le_refl _)).st_add (o := oBox w.heap.size z5) hB0 (Box.new w _ _) (fun g hg => by cases hg; exact Nat.le_refl _)
  replace hH0 := hH0.hp
  refine calls_vc (rs := [.cell 10 88]) Fa.mix Try.func38 rfl Try.ntmps38 rfl (by kernel_rfl) (Nat.le_of_ble_eq_true rfl) ?_
  (repeat rw [vc_seq]); refine vc_plain _ fun Q hQ => ?_; simp -dsimp (maxSteps := 2000000) only [Fa.F38, VC.Now, VC.vc_skip, VC.vc_ret, VC.vc_exit, VC.vc_block, VC.vc_cond, VC.vc_region, VC.lib, VC.mapN_drewN, VC.mapB_drewN, VC.regQ, VC.loopK, VC.reg, VC.opP, VC.opS, VC.opZ, VC.nomulB, VC.pv, VC.thenF, VC.blkF, VC.retF, VC.resV, VC.oneV, VC.evo, VC.bin, VC.binI, VC.cmpI, VC.arithI, VC.ldv, VC.slv, VC.pickP, VC.holds, VC.chainOf, VC.look, VC.junk, VC.put, VC.eff, VC.callee, VC.pureB, VC.rdK, VC.rdKs, VC.okKs, VC.eqKs, VC.fillL, VC.putL, VC.stW, VC.stOK, VC.mixF, VC.setAll, Nat.reduceAdd, Nat.reduceSub, Nat.reduceMul, if_true, if_false, ↓reduceIte, forall_const, implies_true, reduceCtorEq, ne_eq, Nat.reduceBNe, Nat.reduceBEq, IntKind.signed, Nat.reduceEqDiff, Nat.reduceLeDiff, Nat.reduceLT, eq_self, Int.reduceEq, Int.reduceLT, Int.reduceLE, Int.reduceAdd, Int.reduceSub, VC.regC_nil, VC.regC_cons, VC.regCK_eq, VC.callQ, VC.tailQ, VC.goCall, VC.chStep]
  change Q _ _ (w.alloc (.cells #[nilS, nilS, nilS, iV 0, iV 0] 88))
  generalize w.alloc (.cells #[nilS, nilS, nilS, iV 0, iV 0] 88) = wa at hH0 hB0 ⊢
  generalize hrb : w.heap.size = rb at hH0 hB0 ⊢
  subst hQ; simp -dsimp (maxSteps := 2000000) only [VC.Now, VC.vc_skip, VC.vc_ret, VC.vc_exit, VC.vc_block, VC.vc_cond, VC.vc_region, VC.lib, VC.mapN_drewN, VC.mapB_drewN, VC.regQ, VC.loopK, VC.reg, VC.opP, VC.opS, VC.opZ, VC.nomulB, VC.pv, VC.thenF, VC.blkF, VC.retF, VC.resV, VC.oneV, VC.evo, VC.bin, VC.binI, VC.cmpI, VC.arithI, VC.ldv, VC.slv, VC.pickP, VC.holds, VC.chainOf, VC.look, VC.junk, VC.put, VC.eff, VC.callee, VC.pureB, VC.rdK, VC.rdKs, VC.okKs, VC.eqKs, VC.fillL, VC.putL, VC.stW, VC.stOK, VC.mixF, VC.setAll, Nat.reduceAdd, Nat.reduceSub, Nat.reduceMul, if_true, if_false, ↓reduceIte, forall_const, implies_true, reduceCtorEq, ne_eq, Nat.reduceBNe, Nat.reduceBEq, IntKind.signed, Nat.reduceEqDiff, Nat.reduceLeDiff, Nat.reduceLT, eq_self, Int.reduceEq, Int.reduceLT, Int.reduceLE, Int.reduceAdd, Int.reduceSub, VC.regC_nil, VC.regC_cons, VC.regCK_eq, VC.callQ, VC.tailQ, VC.goCall, VC.chStep]; (repeat rw [vc_seq]); refine vc_plain _ fun Q hQ => ?_; simp -dsimp (maxSteps := 2000000) only [Fa.F38, VC.Now, VC.vc_skip, VC.vc_ret, VC.vc_exit, VC.vc_block, VC.vc_cond, VC.vc_region, VC.lib, VC.mapN_drewN, VC.mapB_drewN, VC.regQ, VC.loopK, VC.reg, VC.opP, VC.opS, VC.opZ, VC.nomulB, VC.pv, VC.thenF, VC.blkF, VC.retF, VC.resV, VC.oneV, VC.evo, VC.bin, VC.binI, VC.cmpI, VC.arithI, VC.ldv, VC.slv, VC.pickP, VC.holds, VC.chainOf, VC.look, VC.junk, VC.put, VC.eff, VC.callee, VC.pureB, VC.rdK, VC.rdKs, VC.okKs, VC.eqKs, VC.fillL, VC.putL, VC.stW, VC.stOK, VC.mixF, VC.setAll, Nat.reduceAdd, Nat.reduceSub, Nat.reduceMul, if_true, if_false, ↓reduceIte, forall_const, implies_true, reduceCtorEq, ne_eq, Nat.reduceBNe, Nat.reduceBEq, IntKind.signed, Nat.reduceEqDiff, Nat.reduceLeDiff, Nat.reduceLT, eq_self, Int.reduceEq, Int.reduceLT, Int.reduceLE, Int.reduceAdd, Int.reduceSub, VC.regC_nil, VC.regC_cons, VC.regCK_eq, VC.callQ, VC.tailQ, VC.goCall, VC.chStep]
  change Q _ _ (wa.alloc (.cells [iV n, iV f, iV sender, .int .u32 liars, nilS, nilS, .bool false].toArray 233))
  have hH1 := (hH0.st_add (o := oBox wa.heap.size [iV n, iV f, iV sender, .int .u32 liars, nilS, nilS, .bool false]) ((Below.refl _ _).alloc (Nat.le_refl _) (.cells _ _)) (Box.new wa _ 233) (fun g hg => by cases hg; exact Nat.le_refl _)).hp
  have hB1 : Below rb w _ := hB0.trans (((Below.refl wa.heap.size wa).alloc (Nat.le_refl _) (.cells [iV n, iV f, iV sender, .int .u32 liars, nilS, nilS, .bool false].toArray 233)).mono hH0.base)
  generalize wa.alloc (.cells [iV n, iV f, iV sender, .int .u32 liars, nilS, nilS, .bool false].toArray 233) = w1 at hH1 hB1 ⊢
  generalize wa.heap.size = sb at hH1 ⊢
  clear hH0 hB0
  obtain ⟨f1, f2, f3⟩ := boxMade w1 z5 z5 88 rfl (by intro v hv; simp at hv; rcases hv with rfl | rfl <;> rfl)
  subst hQ; simp -dsimp (maxSteps := 2000000) only [VC.Now, VC.vc_skip, VC.vc_ret, VC.vc_exit, VC.vc_block, VC.vc_cond, VC.vc_region, VC.lib, VC.mapN_drewN, VC.mapB_drewN, VC.regQ, VC.loopK, VC.reg, VC.opP, VC.opS, VC.opZ, VC.nomulB, VC.pv, VC.thenF, VC.blkF, VC.retF, VC.resV, VC.oneV, VC.evo, VC.bin, VC.binI, VC.cmpI, VC.arithI, VC.ldv, VC.slv, VC.pickP, VC.holds, VC.chainOf, VC.look, VC.junk, VC.put, VC.eff, VC.callee, VC.pureB, VC.rdK, VC.rdKs, VC.okKs, VC.eqKs, VC.fillL, VC.putL, VC.stW, VC.stOK, VC.mixF, VC.setAll, Nat.reduceAdd, Nat.reduceSub, Nat.reduceMul, if_true, if_false, ↓reduceIte, forall_const, implies_true, reduceCtorEq, ne_eq, Nat.reduceBNe, Nat.reduceBEq, IntKind.signed, Nat.reduceEqDiff, Nat.reduceLeDiff, Nat.reduceLT, eq_self, Int.reduceEq, Int.reduceLT, Int.reduceLE, Int.reduceAdd, Int.reduceSub, VC.regC_nil, VC.regC_cons, VC.regCK_eq, VC.callQ, VC.tailQ, VC.goCall, VC.chStep]; (repeat rw [vc_seq]); refine vc_plain _ fun Q hQ => ?_; simp -dsimp (maxSteps := 2000000) only [Fa.F38, VC.Now, VC.vc_skip, VC.vc_ret, VC.vc_exit, VC.vc_block, VC.vc_cond, VC.vc_region, VC.lib, VC.mapN_drewN, VC.mapB_drewN, VC.regQ, VC.loopK, VC.reg, VC.opP, VC.opS, VC.opZ, VC.nomulB, VC.pv, VC.thenF, VC.blkF, VC.retF, VC.resV, VC.oneV, VC.evo, VC.bin, VC.binI, VC.cmpI, VC.arithI, VC.ldv, VC.slv, VC.pickP, VC.holds, VC.chainOf, VC.look, VC.junk, VC.put, VC.eff, VC.callee, VC.pureB, VC.rdK, VC.rdKs, VC.okKs, VC.eqKs, VC.fillL, VC.putL, VC.mixF, VC.setAll, Nat.reduceAdd, Nat.reduceSub, Nat.reduceMul, if_true, if_false, ↓reduceIte, forall_const, implies_true, reduceCtorEq, ne_eq, Nat.reduceBNe, Nat.reduceBEq, IntKind.signed, Nat.reduceEqDiff, Nat.reduceLeDiff, Nat.reduceLT, eq_self, Int.reduceEq, Int.reduceLT, Int.reduceLE, Int.reduceAdd, Int.reduceSub, VC.regC_nil, VC.regC_cons, VC.regCK_eq, VC.callQ, VC.tailQ, VC.goCall, VC.chStep]
  refine ⟨f1, ?_⟩
  change Q _ _ (stW (w1.alloc (.cells z5.toArray 88)) ⟨w1.heap.size, 0, none⟩ 0 z5)
  have hH2 := (hH1.st_add (o := oBox w1.heap.size z5) f3 f2 (fun g hg => by cases hg; exact Nat.le_refl _)).hp
  have hB2 := hB1.trans (f3.mono hH1.base)
  generalize stW (w1.alloc (.cells z5.toArray 88)) ⟨w1.heap.size, 0, none⟩ 0 z5 = w2 at hH2 hB2 ⊢
  generalize w1.heap.size = b7 at hH2 ⊢
  clear f1 f2 f3 hH1 hB1
  have hHs : Hp rb ([oOwn 24 1 0 nilS (bcodes n f liars sender g 0), oBox b7 [nilS, nilS, nilS, iV 0, iV 0], oBox rb z5] ++ SObs n f liars sender sb (bst n f liars sender g 0) nilS nilS) w2 := by
    have h9 := (hH2.st_add (o := oOwn 280 5 0 nilS []) (Below.refl _ _) (OwnK.nil _ _ _ _) (fun g hg => by cases hg)).hp
    have h10 := (h9.st_add (o := oOwn 3 1 0 nilS []) (Below.refl _ _) (OwnK.nil _ _ _ _) (fun g hg => by cases hg)).hp
    have h11 := (h10.st_add (o := oOwn 24 1 0 nilS []) (Below.refl _ _) (OwnK.nil _ _ _ _) (fun g hg => by cases hg)).hp
    exact h11.pick [0, 3, 5, 4, 2, 1] (by decide) _ rfl
  clear hH2
  subst hQ
  simp -dsimp (maxSteps := 2000000) only [Fa.F38, VC.Now, VC.vc, VC.lib, VC.mapN_drewN, VC.mapB_drewN, VC.regQ, VC.loopK, VC.reg, VC.opP, VC.opS, VC.opZ, VC.nomulB, VC.pv, VC.thenF, VC.blkF, VC.retF, VC.resV, VC.oneV, VC.evo, VC.bin, VC.binI, VC.cmpI, VC.arithI, VC.ldv, VC.slv, VC.pickP, VC.holds, VC.chainOf, VC.look, VC.junk, VC.put, VC.eff, VC.callee, VC.pureB, VC.rdK, VC.rdKs, VC.okKs, VC.eqKs, VC.fillL, VC.putL, VC.stW, VC.stOK, VC.mixF, VC.setAll, Nat.reduceAdd, Nat.reduceSub, Nat.reduceMul, if_true, if_false, ↓reduceIte, forall_const, implies_true, reduceCtorEq, ne_eq, Nat.reduceBNe, Nat.reduceBEq, IntKind.signed, Nat.reduceEqDiff, Nat.reduceLeDiff, Nat.reduceLT, eq_self, Int.reduceEq, Int.reduceLT, Int.reduceLE, Int.reduceAdd, Int.reduceSub, VC.regC_nil, VC.regC_cons, VC.regCK_eq, VC.callQ, VC.tailQ, VC.goCall, VC.chStep]
  refine loop_slots Fa.mix [26] [14, 27, 28, 29, 30, 31, 32, 33, 34, 35, 36, 37, 38] (fun mm vs wx => ∃ (t : Nat) (va vk vc : Value), t + mm = len ∧ vs = [.int .i64 t] ∧ Below rb w wx ∧
      Hp rb ([oOwn 24 1 t vc (bcodes n f liars sender g t), oBox b7 [vc, nilS, nilS, iV 0, iV 0], oBox rb z5] ++ SObs n f liars sender sb (bst n f liars sender g t) va vk) wx) len (by kernel_rfl) rfl
      ⟨0, nilS, nilS, nilS, by omega, rfl, hB2, hHs⟩ ?_
  clear hHs hB2
  rintro mm vs u9 wz ⟨t, va, vk, vc, hkm2, rfl, hBx, hH⟩
  have hok := bst_ok (f := f) (liars := liars) (g := g) hs hn hgf t
  by_cases ht : t < len
  · obtain ⟨b, o, rfl, hb, hc⟩ := (hr.below (by rw [hrb]; exact hBx)) (by omega)
    have s0 := hc t ht 0 _ rfl
    have s1 := hc t ht 1 _ rfl
    have s2 := hc t ht 2 _ rfl
    have s3 := hc t ht 3 _ rfl
    have s4 := hc t ht 4 _ rfl
    have s5 := hc t ht 5 _ rfl
    simp only [Nat.add_zero] at s0
    have e8' : ((t : Int) < len) = True := eq_true (by omega)
    have hms : bst n f liars sender g (t + 1) = (bstep n f liars sender (g t) (bst n f liars sender g t)).2 := rfl
    have hmc := bcodes_succ n f liars sender g t
    generalize bst n f liars sender g t = s at *
    generalize hgk : g t = c at *
    obtain ⟨Ac, cc, ec, _⟩ := id (hH.get 0 rfl : OwnK wz 0 24 1 t vc _)
    simp -dsimp (maxSteps := 2000000) only [Fa.F38, e8', rdI_of s0, s0, rdI_of s1, s1, rdI_of s2, s2, rdI_of s3, s3, rdI_of s4, s4, rdI_of s5, s5, hb, Int.toNat_natCast, VC.Now, VC.vc, VC.lib, VC.mapN_drewN, VC.mapB_drewN, VC.regQ, VC.loopK, VC.reg, VC.opP, VC.opS, VC.opZ, VC.nomulB, VC.pv, VC.thenF, VC.blkF, VC.retF, VC.resV, VC.oneV, VC.evo, VC.bin, VC.binI, VC.cmpI, VC.arithI, VC.ldv, VC.slv, VC.pickP, VC.holds, VC.chainOf, VC.look, VC.junk, VC.put, VC.eff, VC.callee, VC.pureB, VC.rdK, VC.rdKs, VC.okKs, VC.eqKs, VC.fillL, VC.putL, VC.stW, VC.stOK, VC.mixF, VC.setAll, Nat.reduceAdd, Nat.reduceSub, Nat.reduceMul, if_true, if_false, ↓reduceIte, forall_const, implies_true, reduceCtorEq, ne_eq, Nat.reduceBNe, Nat.reduceBEq, IntKind.signed, Nat.reduceEqDiff, Nat.reduceLeDiff, Nat.reduceLT, eq_self, Int.reduceEq, Int.reduceLT, Int.reduceLE, Int.reduceAdd, Int.reduceSub, VC.regC_nil, VC.regC_cons, VC.regCK_eq, VC.callQ, VC.tailQ, VC.goCall, VC.chStep]
    refine ⟨by omega, ?_⟩
    have hsay : Box (wz.alloc (.cells (sprL c).toArray 223)) wz.heap.size (sprL c) := Box.new wz _ _
    have hBs : Below wz.heap.size wz (wz.alloc (.cells (sprL c).toArray 223)) := (Below.refl _ _).alloc (Nat.le_refl _) _
    change WP _ _ _ _ _ _ (wz.alloc (.cells (sprL c).toArray 223))
    generalize wz.alloc (.cells (sprL c).toArray 223) = wy at hsay hBs ⊢
    have hHy := (hH.below hBs).perm (List.perm_append_comm)
    have hBy : Below rb w wy := hBx.trans (hBs.mono hH.base)
    have nsay : ¬ foot (SObs n f liars sender sb s va vk) wz.heap.size := fun hf => by have := ((hH.perm (List.perm_append_comm)).left.foot_lt hf).2; omega
    have nsc : vc.ownBlock ≠ some wz.heap.size := fun hf => by have := (hH.lt 0 rfl hf).2; omega
    generalize wz.heap.size = yb at hsay hBs nsay nsc ⊢
    have hby := hsay.1
    have z0 := hsay.at (i := 0) rfl
    have z1 := hsay.at (i := 1) rfl
    have z2 := hsay.at (i := 2) rfl
    have z3 := hsay.at (i := 3) rfl
    have z4 := hsay.at (i := 4) rfl
    have y5 := hsay.at (i := 5) rfl
    have hHz := hHy.perm (List.perm_append_comm)
    have y1 := (hHz.get 1 rfl : Box wy b7 _).at (i := 0) rfl
    rw [ec] at y1
    have hwl := (hHz.get 1 rfl : Box wy b7 _).1
    have n7 : ¬ foot (SObs n f liars sender sb s va vk) b7 := hHy.not_foot 1 rfl rfl
    have n7c : vc.ownBlock ≠ some b7 := fun hf => hHz.ne 0 1 (by decide) rfl rfl _ hf rfl
    have hHd := hHy.drewN 1
    have ag0 : Agree (fun j => foot (SObs n f liars sender sb s va vk) j ∨ vc.ownBlock = some j) wy (wy.drewN 1) := Agree.of_below (below_drewN (Below.refl _ wy) 1)
    refine WP_held 8 (fun j => foot (SObs n f liars sender sb s va vk) j ∨ vc.ownBlock = some j) (.take 0 (.take 1 (.take 2 (.take 3 (.one 4 (.one 5 (.one 6 (.take 7 (.one 8 .done))))))))) Fa.mix (by kernel_rfl) rfl ?_
    simp -dsimp (maxSteps := 2000000) only [VC.heldF_done, VC.heldF_last, VC.planF_done, VC.planF_take, VC.planF_one, VC.planF_two, VC.planK_eq, VC.heldF_take, VC.heldF_one, VC.heldF_two, VC.heldF_twoL, VC.heldK_eq, VC.okRd, Fa.F38, rdI_of z0, z0, rdI_of z1, z1, rdI_of z2, z2, rdI_of z3, z3, rdI_of z4, z4, rdI_of y5, y5, rdSA_of y1, rdSN_of y1, rdSC_of y1, y1, hwl, VC.Now, VC.vc, VC.lib, VC.mapN_drewN, VC.mapB_drewN, VC.regQ, VC.loopK, VC.reg, VC.opP, VC.opS, VC.opZ, VC.nomulB, VC.pv, VC.thenF, VC.blkF, VC.retF, VC.resV, VC.oneV, VC.evo, VC.bin, VC.binI, VC.cmpI, VC.arithI, VC.ldv, VC.slv, VC.pickP, VC.holds, VC.chainOf, VC.look, VC.junk, VC.put, VC.eff, VC.callee, VC.pureB, VC.rdK, VC.rdKs, VC.okKs, VC.eqKs, VC.fillL, VC.putL, VC.stW, VC.stOK, VC.mixF, VC.setAll, Nat.reduceAdd, Nat.reduceSub, Nat.reduceMul, if_true, if_false, ↓reduceIte, forall_const, implies_true, reduceCtorEq, ne_eq, Nat.reduceBNe, Nat.reduceBEq, IntKind.signed, Nat.reduceEqDiff, Nat.reduceLeDiff, Nat.reduceLT, eq_self, Int.reduceEq, Int.reduceLT, Int.reduceLE, Int.reduceAdd, Int.reduceSub, VC.regC_nil, VC.regC_cons, VC.regCK_eq, VC.callQ, VC.tailQ, VC.goCall, VC.chStep]
    refine ⟨fun h => h.elim n7 n7c, ⟨hby, fun h => h.elim nsay nsc⟩, ?_⟩
    have hgft : fits .i64 c.n := by rw [← hgk]; exact hgf t
    refine CALL_by (dbstep_any hHd.left hok hs hn hf (by omega) hl c) fun e w4 hp => ⟨_, hp.1, ?_⟩
    obtain ⟨_, q', q2', st4⟩ := hp
    have st5 := (st4.part hHd).perm List.perm_append_comm List.perm_append_comm
    have ag4 := ag0.trans (st4.agree.mono fun j _ hj => Or.inl hj)
    have hH4 := st5.hp
    have y2 := (hH4.get 1 rfl : Box w4 b7 _).at (i := 0) rfl
    have hw4 := (hH4.get 1 rfl : Box w4 b7 _).1
    rw [ec] at y2
    simp -dsimp (maxSteps := 2000000) only [VC.heldF_done, VC.heldF_last, VC.planF_done, VC.planF_take, VC.planF_one, VC.planF_two, VC.planK_eq, VC.heldF_take, VC.heldF_one, VC.heldF_two, VC.heldF_twoL, VC.heldK_eq, VC.okRd, Fa.F38, rdSA_of y1, rdSN_of y1, rdSC_of y1, y1, hwl, hw4, rdSA_of y2, rdSN_of y2, rdSC_of y2, y2, VC.Now, VC.vc, VC.lib, VC.mapN_drewN, VC.mapB_drewN, VC.regQ, VC.loopK, VC.reg, VC.opP, VC.opS, VC.opZ, VC.nomulB, VC.pv, VC.thenF, VC.blkF, VC.retF, VC.resV, VC.oneV, VC.evo, VC.bin, VC.binI, VC.cmpI, VC.arithI, VC.ldv, VC.slv, VC.pickP, VC.holds, VC.chainOf, VC.look, VC.junk, VC.put, VC.eff, VC.callee, VC.pureB, VC.rdK, VC.rdKs, VC.okKs, VC.eqKs, VC.fillL, VC.putL, VC.stW, VC.stOK, VC.mixF, VC.setAll, Nat.reduceAdd, Nat.reduceSub, Nat.reduceMul, if_true, if_false, ↓reduceIte, forall_const, implies_true, reduceCtorEq, ne_eq, Nat.reduceBNe, Nat.reduceBEq, IntKind.signed, Nat.reduceEqDiff, Nat.reduceLeDiff, Nat.reduceLT, eq_self, Int.reduceEq, Int.reduceLT, Int.reduceLE, Int.reduceAdd, Int.reduceSub, VC.regC_nil, VC.regC_cons, VC.regCK_eq, VC.callQ, VC.tailQ, VC.goCall, VC.chStep]
    refine ⟨ag4, ag4.trans (Agree.of_below ((Below.refl _ _).alloc (Nat.le_refl _) _)), ?_⟩
    refine OPW_appK (v := vc) rfl Fa.apI33 (by rw [ec]; rfl) rfl rfl (by simp [Value.oneCell']) (hH4.get 0 rfl) (Nat.zero_le _) (by omega) (by decide) fun v5 w5 ho5 hg5 hst5 => ?_
    rw [← hmc] at ho5
    obtain ⟨⟨r1, r2⟩, st6⟩ := hH4.growField 1 0 rfl rfl (by decide) ho5 hg5 hst5 0 (by show 0 < 5; omega)
    obtain ⟨A5, c5, rfl, _⟩ := id ho5
    have hw6 : b7 < w5.heap.size := by simpa using (st6.hp.get 1 rfl : Box _ b7 _).1
    simp -dsimp (maxSteps := 2000000) only [VC.heldF_done, VC.heldF_last, VC.planF_done, VC.planF_take, VC.planF_one, VC.planF_two, VC.planK_eq, VC.heldF_take, VC.heldF_one, VC.heldF_two, VC.heldF_twoL, VC.heldK_eq, VC.okRd, Fa.F38, hw6, hw4, hwl, VC.Now, VC.vc, VC.lib, VC.mapN_drewN, VC.mapB_drewN, VC.regQ, VC.loopK, VC.reg, VC.opP, VC.opS, VC.opZ, VC.nomulB, VC.pv, VC.thenF, VC.blkF, VC.retF, VC.resV, VC.oneV, VC.evo, VC.bin, VC.binI, VC.cmpI, VC.arithI, VC.ldv, VC.slv, VC.pickP, VC.holds, VC.chainOf, VC.look, VC.junk, VC.put, VC.eff, VC.callee, VC.pureB, VC.rdK, VC.rdKs, VC.okKs, VC.eqKs, VC.fillL, VC.putL, VC.stW, VC.stOK, VC.mixF, VC.setAll, Nat.reduceAdd, Nat.reduceSub, Nat.reduceMul, if_true, if_false, ↓reduceIte, forall_const, implies_true, reduceCtorEq, ne_eq, Nat.reduceBNe, Nat.reduceBEq, IntKind.signed, Nat.reduceEqDiff, Nat.reduceLeDiff, Nat.reduceLT, eq_self, Int.reduceEq, Int.reduceLT, Int.reduceLE, Int.reduceAdd, Int.reduceSub, VC.regC_nil, VC.regC_cons, VC.regCK_eq, VC.callQ, VC.tailQ, VC.goCall, VC.chStep]
    have ag6 := ag4.trans (Agree.grown hg5 fun j hj => Or.inr hj)
    have hBw : Below rb w (w5.setCell ⟨b7, 0, none⟩ (.slice A5 (t + 1) c5)) := hBy.trans ((below_drewN (Below.refl rb wy) 1).trans ((st5.trans st6).below (hHd.perm List.perm_append_comm)))
    refine ⟨ag6, ⟨r1, r2⟩, fits_i64_nat (by omega), SAME.intro (by kernel_rfl), mm - 1, by omega, t + 1, q', q2', .slice A5 (t + 1) c5, by omega, rfl, hBw, ?_⟩
    rw [hms]
    exact st6.hp
  · obtain rfl : t = len := by omega
    clear hr hgf hkm2 ht hf3 hliars
    revert n f liars sender A2 cap g w wa rb w1 sb w2 b7 mm u9 wz t va vk vc
    exact HH.1
end Go.Proofs.Ytelfmhiaafkimaa
