/- An assembly as the document has it: the whole run. -/
import Derived.Test.YtnggjekppdlaoaaMootR7
namespace Go.Proofs.Ytnggjekppdlaoaa
open Go Go.RowKit Go.VC
set_option linter.unusedSimpArgs false
set_option linter.unusedVariables false
section
variable {w : World}

set_option maxRecDepth 8000 in
set_option maxHeartbeats 8000000 in
theorem meetR_any (A : Option Addr) (n f liars len cap : Nat) (g : Nat → Say) (w : World) (hr : RdSay w A len g) (h1 : 1 ≤ n) (h7 : n ≤ 7) (hf : 3 * f < n) (hl : liars < 2 ^ n) (hlen : len ≤ 120) :
    Calls Try.prog 17 #[.int .i64 n, .int .i64 f, .int .u32 liars, .slice A len cap] w fun e w' => ∃ v, e = .returned v ∧ MeetV n (n - f) liars g len v w' ∧ Below w.heap.size w w' := by
  have hl32 : liars < 4294967296 := Nat.lt_of_lt_of_le hl (Nat.le_trans (Nat.pow_le_pow_right (by omega) h7) (by decide))
  have hB0 : Below w.heap.size w (w.alloc (.cells #[nilS, nilS, nilS, nilS] 47)) := (Below.refl _ _).alloc (Nat.le_refl _) _
  have hH0 := (Hp.nil (B := w.heap.size) (Nat.le_refl _)).st_add (o := oBox w.heap.size [nilS, nilS, nilS, nilS]) hB0 (Box.new w _ _) (fun g hg => by cases hg; exact Nat.le_refl _)
  replace hH0 := hH0.hp
  have hz0 : (w.alloc (.cells #[nilS, nilS, nilS, nilS] 47)).heap.size = w.heap.size + 1 := by simp
  refine calls_vc (rs := [.cell 8 47]) Fa.mix Try.func17 rfl Try.ntmps17 rfl (by kernel_rfl) (Nat.le_of_ble_eq_true rfl) ?_
  (repeat rw [vc_seq]); refine vc_plain _ fun Q hQ => ?_; simp -dsimp only [Fa.F17, VC.Now, VC.vc_skip, VC.vc_ret, VC.vc_exit, VC.vc_block, VC.vc_cond, VC.vc_region, VC.lib, VC.regQ, VC.loopK, VC.reg, VC.opP, VC.pv, VC.thenF, VC.blkF, VC.retF, VC.resV, VC.oneV, VC.evo, VC.bin, VC.binI, VC.cmpI, VC.arithI, VC.ldv, VC.slv, VC.pickP, VC.holds, VC.chainOf, VC.look, VC.junk, VC.put, VC.eff, VC.callee, VC.pureB, VC.rdK, VC.rdKs, VC.okKs, VC.eqKs, VC.fillL, VC.putL, VC.stW, VC.stOK, VC.mixF, VC.setAll, Nat.reduceAdd, Nat.reduceSub, Nat.reduceMul, if_true, if_false, ↓reduceIte, forall_const, implies_true, reduceCtorEq, ne_eq, Nat.reduceBNe, Nat.reduceBEq, IntKind.signed, Nat.reduceEqDiff, Nat.reduceLeDiff, Nat.reduceLT, eq_self, Int.reduceEq, Int.reduceLT, Int.reduceLE, Int.reduceAdd, Int.reduceSub, VC.regC_nil, VC.regC_cons, VC.regCK_eq, VC.callQ, VC.tailQ, VC.goCall, VC.chStep]
  change Q _ _ (w.alloc (.cells #[nilS, nilS, nilS, nilS] 47))
  generalize w.alloc (.cells #[nilS, nilS, nilS, nilS] 47) = wa at hH0 hB0 hz0 ⊢
  generalize hrb : w.heap.size = rb at hH0 hB0 hz0 ⊢
  subst hQ
  refine WP_held 99 (fun _ => False) (.take 0 (.take 1 (.take 2 (.take 3 (.take 5 (.take 7 (.any [4,6,8] (.take 9 (.one 10 (.take 11 .done)))))))))) Fa.mix (by kernel_rfl) rfl ?_
  simp -dsimp only [VC.heldF_done, VC.heldF_last, VC.planF_done, VC.planF_take, VC.planF_one, VC.planF_two, VC.planK_eq, VC.heldF_take, VC.heldF_one, VC.heldF_two, VC.heldF_twoL, VC.heldK_eq, VC.okRd, Fa.F17, VC.Now, VC.vc, VC.lib, VC.regQ, VC.loopK, VC.reg, VC.opP, VC.pv, VC.thenF, VC.blkF, VC.retF, VC.resV, VC.oneV, VC.evo, VC.bin, VC.binI, VC.cmpI, VC.arithI, VC.ldv, VC.slv, VC.pickP, VC.holds, VC.chainOf, VC.look, VC.junk, VC.put, VC.eff, VC.callee, VC.pureB, VC.rdK, VC.rdKs, VC.okKs, VC.eqKs, VC.fillL, VC.putL, VC.stW, VC.stOK, VC.mixF, VC.setAll, Nat.reduceAdd, Nat.reduceSub, Nat.reduceMul, if_true, if_false, ↓reduceIte, forall_const, implies_true, reduceCtorEq, ne_eq, Nat.reduceBNe, Nat.reduceBEq, IntKind.signed, Nat.reduceEqDiff, Nat.reduceLeDiff, Nat.reduceLT, eq_self, Int.reduceEq, Int.reduceLT, Int.reduceLE, Int.reduceAdd, Int.reduceSub, VC.regC_nil, VC.regC_cons, VC.regCK_eq, VC.callQ, VC.tailQ, VC.goCall, VC.chStep]
  refine makesR_any (n := n) (wA := wa) (.mk0 rfl rfl rfl) (.mk0 rfl rfl rfl) (.mk0 rfl rfl rfl) (Nat.le_of_ble_eq_true rfl) rfl rfl rfl (by omega) (JR.start n wa _ _ (below_drewN (Below.refl _ _) 1)) ?_
  intro gg w1 gb gv gk e18 e20 e22 hJ
  simp -dsimp only [VC.heldF_done, VC.heldF_last, VC.planF_done, VC.planF_take, VC.planF_one, VC.planF_two, VC.planK_eq, VC.heldF_take, VC.heldF_one, VC.heldF_two, VC.heldF_twoL, VC.heldK_eq, VC.okRd, Fa.F17, VC.setD, e18, e20, e22, VC.Now, VC.vc, VC.lib, VC.regQ, VC.loopK, VC.reg, VC.opP, VC.pv, VC.thenF, VC.blkF, VC.retF, VC.resV, VC.oneV, VC.evo, VC.bin, VC.binI, VC.cmpI, VC.arithI, VC.ldv, VC.slv, VC.pickP, VC.holds, VC.chainOf, VC.look, VC.junk, VC.put, VC.eff, VC.callee, VC.pureB, VC.rdK, VC.rdKs, VC.okKs, VC.eqKs, VC.fillL, VC.putL, VC.mixF, VC.setAll, Nat.reduceAdd, Nat.reduceSub, Nat.reduceMul, if_true, if_false, ↓reduceIte, forall_const, implies_true, reduceCtorEq, ne_eq, Nat.reduceBNe, Nat.reduceBEq, IntKind.signed, Nat.reduceEqDiff, Nat.reduceLeDiff, Nat.reduceLT, eq_self, Int.reduceEq, Int.reduceLT, Int.reduceLE, Int.reduceAdd, Int.reduceSub, VC.regC_nil, VC.regC_cons, VC.regCK_eq, VC.callQ, VC.tailQ, VC.goCall, VC.chStep]
  have hJ1 : Hp wa.heap.size [oOwn 116 2 1 (sl1 gb 1) [.int .i64 (-1), .int .i64 0], oOwn 3 1 n (sl1 gv n) (zs n), oOwn 3 1 n (sl1 gk n) (zs n)] w1 := by
    have := hJ.hp
    simpa [JO, oB, oV, e18, e20, e22] using this
  have hag := hJ.ag
  clear hJ
  have hH1 : Hp rb ([oOwn 116 2 1 (sl1 gb 1) [.int .i64 (-1), .int .i64 0], oOwn 3 1 n (sl1 gv n) (zs n), oOwn 3 1 n (sl1 gk n) (zs n)] ++ [oBox rb [nilS, nilS, nilS, nilS]]) w1 :=
    Hp.part (L := []) hH0 (hJ1.mono (by omega)) (Agree.of_below hag) fun g hg => Or.inr (hJ1.foot_lt hg).1
  have hB1 : Below rb w w1 := hB0.trans (hag.mono (by omega))
  have ov : OwnK w1 0 3 1 n (sl1 gv n) (zs n) := hJ1.get 1 rfl
  have ok : OwnK w1 0 3 1 n (sl1 gk n) (zs n) := hJ1.get 2 rfl
  have hcs : ∀ i, i < n → ∀ j, j < 1 → (zs n)[i * 1 + j]? = (oneC ms0.vd i)[j]? := fun i hi j hj => by
    obtain rfl : j = 0 := by omega
    simp [zs, List.getElem?_replicate, hi, oneC, ms0]
  have hH2 := (hH1.reword 1 (o' := oRecs gv n 1 (oneC ms0.vd)) rfl (Recs.of_own (cs := oneC ms0.vd) ov (ov.lt (g := gv) rfl).2 hcs) rfl).reword 2 (o' := oRecs gk n 1 (oneC ms0.kn)) rfl (Recs.of_own (cs := oneC ms0.kn) ok (ok.lt (g := gk) rfl).2 hcs) rfl
  have hag' := hag
  have hsz1 := hag.size
  clear hJ1 hH0 hH1 ov ok hcs hag hB0
  refine ⟨Agree.of_below (hag'.trans (((Below.refl _ w1).alloc (Nat.le_refl _) _).mono (by omega))), ?_⟩
  have hH3 := (hH2.st_add (o := oBox w1.heap.size (refC n f liars ⟨w1.heap.size, gv, gk, sl1 gb 1, nilS, nilS⟩)) ((Below.refl _ _).alloc (Nat.le_refl _) (.cells _ _)) (Box.new w1 _ 132) (fun g hg => by cases hg; exact Nat.le_refl _)).hp
  have hB3 : Below w1.heap.size w1 (w1.alloc (.cells (refC n f liars ⟨w1.heap.size, gv, gk, sl1 gb 1, nilS, nilS⟩).toArray 132)) := (Below.refl _ _).alloc (Nat.le_refl _) _
  have hz3 : (w1.alloc (.cells (refC n f liars ⟨w1.heap.size, gv, gk, sl1 gb 1, nilS, nilS⟩).toArray 132)).heap.size = w1.heap.size + 1 := by simp
  change stOK ((w1.alloc (.cells (refC n f liars ⟨w1.heap.size, gv, gk, sl1 gb 1, nilS, nilS⟩).toArray 132)).alloc (.cells #[nilS, nilS, nilS, nilS] 47)) _ _ _ ∧ WP _ _ _ _ _ _ (stW ((w1.alloc (.cells (refC n f liars ⟨w1.heap.size, gv, gk, sl1 gb 1, nilS, nilS⟩).toArray 132)).alloc (.cells #[nilS, nilS, nilS, nilS] 47)) _ _ _)
  have hBc := hB1.trans (hB3.mono (by omega))
  generalize w1.alloc (.cells (refC n f liars ⟨w1.heap.size, gv, gk, sl1 gb 1, nilS, nilS⟩).toArray 132) = w3 at hH3 hB3 hz3 hBc ⊢
  have hH4 := (hH3.st_add (o := oBox w3.heap.size [nilS, nilS, nilS, nilS]) ((Below.refl _ _).alloc (Nat.le_refl _) (.cells _ _)) (Box.new w3 _ 47) (fun g hg => by cases hg; exact Nat.le_refl _)).hp
  have hB4 : Below w3.heap.size w3 (w3.alloc (.cells #[nilS, nilS, nilS, nilS] 47)) := (Below.refl _ _).alloc (Nat.le_refl _) _
  change Hp _ _ (w3.alloc (.cells #[nilS, nilS, nilS, nilS] 47)) at hH4
  have hBd := hBc.trans (hB4.mono (by omega))
  generalize w3.alloc (.cells #[nilS, nilS, nilS, nilS] 47) = w4 at hH4 hBd ⊢
  rw [hz3] at hH4
  generalize w1.heap.size = mb at hH4 ⊢
  obtain ⟨o5, st5⟩ := hH4.allBox 0 rfl (vs := [nilS, nilS, nilS, nilS]) rfl (by intro v hv; simp at hv; rcases hv with rfl | rfl | rfl | rfl <;> rfl)
  have hBe := hBd.trans (st5.below hH4)
  have hH5 := st5.hp
  refine ⟨o5, ?_⟩
  generalize stW w4 ⟨mb + 1, 0, none⟩ 0 [nilS, nilS, nilS, nilS] = w5 at hH5 hBe ⊢
  have hH8 := (((hH5.st_add (o := oOwn 27 1 0 nilS []) (Below.refl _ _) (OwnK.nil _ _ _ _) (fun g hg => by cases hg)).hp.st_add (o := oOwn 218 3 0 nilS []) (Below.refl _ _) (OwnK.nil _ _ _ _) (fun g hg => by cases hg)).hp.st_add (o := oOwn 218 3 0 nilS []) (Below.refl _ _) (OwnK.nil _ _ _ _) (fun g hg => by cases hg)).hp
  have hH9 := hH8.pick [4, 5, 0, 1, 6, 7, 3, 2, 8] (by decide) (RObs n f liars ⟨mb, gv, gk, sl1 gb 1, nilS, nilS⟩ ms0 [] [] ++ [oBox (mb + 1) [nilS, nilS, nilS, nilS], oOwn 27 1 0 nilS [], oBox rb [nilS, nilS, nilS, nilS]]) rfl
  clear hH2 hH3 hH4 hH5 hH8 hB3 hB1 hBc hBd hB4 st5 o5 hag' hz3 hsz1
  refine loop_slots Fa.mix [28] [12, 29, 30, 31, 32, 33, 34, 35, 36, 37, 38, 39, 40] (fun m vs wx => ∃ (k : Nat) (vb vo vl vc : Value) (V T : List Vo), k + m = len ∧ vs = [.int .i64 k] ∧ V.length ≤ k ∧ T.length ≤ k ∧ Below rb w wx ∧ RRel n liars (mst n (n - f) liars g k) V T ∧
      Hp rb (RObs n f liars ⟨mb, gv, gk, vb, vo, vl⟩ (mst n (n - f) liars g k) V T ++ [oBox (mb + 1) [vc, nilS, nilS, nilS], oOwn 27 1 k vc (mcodes n (n - f) liars g k), oBox rb [nilS, nilS, nilS, nilS]]) wx) len (by kernel_rfl) rfl
    ⟨0, _, nilS, nilS, nilS, [], [], by omega, rfl, Nat.le_refl _, Nat.le_refl _, hBe, RRel.zero n liars, hH9⟩ ?_
  clear hH9 hBe
  rintro m vs u wx ⟨k, vb, vo, vl, vc, V, T, hkm, rfl, hnl, hng, hBx, hR, hH⟩
  have hok := mok n (n - f) liars g k
  by_cases hk : k < len
  · obtain ⟨b, o, rfl, hb, hc⟩ := (hr.below (by rw [hrb]; exact hBx)) (by omega)
    obtain ⟨hsk, s0, s1, s2, s3, s4⟩ := hc k hk
    have e7 : ((k : Int) < len) = True := eq_true (by omega)
    have hms : mst n (n - f) liars g (k + 1) = (mstep n (n - f) liars (g k) (mst n (n - f) liars g k)).2 := rfl
    have hmc : mcodes n (n - f) liars g (k + 1) = mcodes n (n - f) liars g k ++ [.int .i64 (mstep n (n - f) liars (g k) (mst n (n - f) liars g k)).1] := by
      unfold mcodes; rw [List.range_succ, List.map_append]; rfl
    generalize mst n (n - f) liars g k = s at *
    generalize hgk : g k = c at *
    obtain ⟨Ac, cc, rfl, _⟩ := id (hH.get 7 rfl : OwnK wx 0 27 1 k vc _)
    simp -dsimp only [Fa.F17, e7, rdI_of s0, s0, rdI_of s1, s1, rdI_of s2, s2, rdI_of s3, s3, rdI_of s4, s4, Int.toNat_natCast, VC.Now, VC.vc, VC.lib, VC.regQ, VC.loopK, VC.reg, VC.opP, VC.pv, VC.thenF, VC.blkF, VC.retF, VC.resV, VC.oneV, VC.evo, VC.bin, VC.binI, VC.cmpI, VC.arithI, VC.ldv, VC.slv, VC.pickP, VC.holds, VC.chainOf, VC.look, VC.junk, VC.put, VC.eff, VC.callee, VC.pureB, VC.rdK, VC.rdKs, VC.okKs, VC.eqKs, VC.fillL, VC.putL, VC.stW, VC.stOK, VC.mixF, VC.setAll, Nat.reduceAdd, Nat.reduceSub, Nat.reduceMul, if_true, if_false, ↓reduceIte, forall_const, implies_true, reduceCtorEq, ne_eq, Nat.reduceBNe, Nat.reduceBEq, IntKind.signed, Nat.reduceEqDiff, Nat.reduceLeDiff, Nat.reduceLT, eq_self, Int.reduceEq, Int.reduceLT, Int.reduceLE, Int.reduceAdd, Int.reduceSub, VC.regC_nil, VC.regC_cons, VC.regCK_eq, VC.callQ, VC.tailQ, VC.goCall, VC.chStep]
    refine ⟨by omega, ?_⟩
    have hsay : Box (wx.alloc (.cells (sayL c).toArray 124)) wx.heap.size (sayL c) := Box.new wx _ _
    have hBs : Below wx.heap.size wx (wx.alloc (.cells (sayL c).toArray 124)) := (Below.refl _ _).alloc (Nat.le_refl _) _
    change WP _ _ _ _ _ _ (wx.alloc (.cells (sayL c).toArray 124))
    generalize wx.alloc (.cells (sayL c).toArray 124) = wy at hsay hBs ⊢
    have hby : wx.heap.size < wy.heap.size := hsay.1
    have hHy := hH.below hBs
    have hBy : Below rb w wy := hBx.trans (hBs.mono hH.base)
    have nsay : ¬ foot (RObs n f liars ⟨mb, gv, gk, vb, vo, vl⟩ s V T) wx.heap.size := fun hf => by have := (hH.left.foot_lt hf).2; omega
    have nsc : (Value.slice Ac k cc).ownBlock ≠ some wx.heap.size := fun hf => by have := (hH.lt 7 rfl hf).2; omega
    generalize wx.heap.size = sb at hsay hby nsay nsc ⊢
    have z0 := hsay.at (i := 0) rfl
    have z1 := hsay.at (i := 1) rfl
    have z2 := hsay.at (i := 2) rfl
    have z3 := hsay.at (i := 3) rfl
    have z4 := hsay.at (i := 4) rfl
    have y1 := (hHy.get 6 rfl : Box wy (mb + 1) _).at (i := 0) rfl
    have hob := (hHy.get 6 rfl : Box wy (mb + 1) _).1
    have nob := hHy.not_foot (L := RObs n f liars ⟨mb, gv, gk, vb, vo, vl⟩ s V T) 0 rfl (j := mb + 1) rfl
    have noc : (Value.slice Ac k cc).ownBlock ≠ some (mb + 1) := fun hf => hHy.ne 6 7 (by decide) rfl rfl (mb + 1) rfl hf
    refine WP_held 8 (fun j => foot (RObs n f liars ⟨mb, gv, gk, vb, vo, vl⟩ s V T) j ∨ (Value.slice Ac k cc).ownBlock = some j) (.take 0 (.take 1 (.take 2 (.take 3 (.one 4 (.one 5 (.one 6 (.take 7 (.one 8 .done))))))))) Fa.mix (by kernel_rfl) rfl ?_
    simp -dsimp only [VC.heldF_done, VC.heldF_last, VC.planF_done, VC.planF_take, VC.planF_one, VC.planF_two, VC.planK_eq, VC.heldF_take, VC.heldF_one, VC.heldF_two, VC.heldF_twoL, VC.heldK_eq, VC.okRd, Fa.F17, rdI_of z0, z0, rdI_of z1, z1, rdI_of z2, z2, rdI_of z3, z3, rdI_of z4, z4, rdSA_of y1, rdSN_of y1, rdSC_of y1, y1, VC.Now, VC.vc, VC.lib, VC.regQ, VC.loopK, VC.reg, VC.opP, VC.pv, VC.thenF, VC.blkF, VC.retF, VC.resV, VC.oneV, VC.evo, VC.bin, VC.binI, VC.cmpI, VC.arithI, VC.ldv, VC.slv, VC.pickP, VC.holds, VC.chainOf, VC.look, VC.junk, VC.put, VC.eff, VC.callee, VC.pureB, VC.rdK, VC.rdKs, VC.okKs, VC.eqKs, VC.fillL, VC.putL, VC.stW, VC.stOK, VC.mixF, VC.setAll, Nat.reduceAdd, Nat.reduceSub, Nat.reduceMul, if_true, if_false, ↓reduceIte, forall_const, implies_true, reduceCtorEq, ne_eq, Nat.reduceBNe, Nat.reduceBEq, IntKind.signed, Nat.reduceEqDiff, Nat.reduceLeDiff, Nat.reduceLT, eq_self, Int.reduceEq, Int.reduceLT, Int.reduceLE, Int.reduceAdd, Int.reduceSub, VC.regC_nil, VC.regC_cons, VC.regCK_eq, VC.callQ, VC.tailQ, VC.goCall, VC.chStep]
    refine ⟨⟨hob, fun h => h.elim nob noc⟩, ⟨hby, fun h => h.elim nsay nsc⟩, ?_⟩
    have hHd := hHy.drewN 1
    have ag0 : Agree (fun j => foot (RObs n f liars ⟨mb, gv, gk, vb, vo, vl⟩ s V T) j ∨ (Value.slice Ac k cc).ownBlock = some j) wy (wy.drewN 1) := Agree.of_below (below_drewN (Below.refl _ wy) 1)
    refine CALL_by (stepR_any hHd.left hR hok (by omega) (by omega) (by omega) (by omega) hl32 hsk) fun e w4 hp => ⟨_, hp.1, ?_⟩
    obtain ⟨_, vb', vo', vl', V', T', hR', hnl', hng', st4⟩ := hp
    have st5 := st4.part hHd
    have ag4 := ag0.trans (st4.agree.mono fun j _ hj => Or.inl hj)
    have hH4 := st5.hp
    simp -dsimp only [VC.heldF_done, VC.heldF_last, VC.planF_done, VC.planF_take, VC.planF_one, VC.planF_two, VC.planK_eq, VC.heldF_take, VC.heldF_one, VC.heldF_two, VC.heldF_twoL, VC.heldK_eq, VC.okRd, Fa.F17, rdI_of z0, z0, rdI_of z1, z1, rdI_of z2, z2, rdI_of z3, z3, rdI_of z4, z4, rdSA_of y1, rdSN_of y1, rdSC_of y1, y1, VC.Now, VC.vc, VC.lib, VC.regQ, VC.loopK, VC.reg, VC.opP, VC.pv, VC.thenF, VC.blkF, VC.retF, VC.resV, VC.oneV, VC.evo, VC.bin, VC.binI, VC.cmpI, VC.arithI, VC.ldv, VC.slv, VC.pickP, VC.holds, VC.chainOf, VC.look, VC.junk, VC.put, VC.eff, VC.callee, VC.pureB, VC.rdK, VC.rdKs, VC.okKs, VC.eqKs, VC.fillL, VC.putL, VC.stW, VC.stOK, VC.mixF, VC.setAll, Nat.reduceAdd, Nat.reduceSub, Nat.reduceMul, if_true, if_false, ↓reduceIte, forall_const, implies_true, reduceCtorEq, ne_eq, Nat.reduceBNe, Nat.reduceBEq, IntKind.signed, Nat.reduceEqDiff, Nat.reduceLeDiff, Nat.reduceLT, eq_self, Int.reduceEq, Int.reduceLT, Int.reduceLE, Int.reduceAdd, Int.reduceSub, VC.regC_nil, VC.regC_cons, VC.regCK_eq, VC.callQ, VC.tailQ, VC.goCall, VC.chStep]
    refine ⟨ag4, ag4.trans (Agree.of_below ((Below.refl _ _).alloc (Nat.le_refl _) _)), ?_⟩
    refine OPW_appK (v := .slice Ac k cc) rfl Fa.apI23 rfl rfl rfl (by simp [Value.oneCell']) (hH4.get 7 rfl) (Nat.zero_le _) (by omega) (by decide) fun v5 w5 ho5 hg5 hst5 => ?_
    rw [← hmc] at ho5
    obtain ⟨⟨r1, r2⟩, st6⟩ := hH4.growField 6 7 rfl rfl (by decide) ho5 hg5 hst5 0 (by show 0 < 4; omega)
    obtain ⟨A5, c5, rfl, _⟩ := id ho5
    simp -dsimp only [VC.heldF_done, VC.heldF_last, VC.planF_done, VC.planF_take, VC.planF_one, VC.planF_two, VC.planK_eq, VC.heldF_take, VC.heldF_one, VC.heldF_two, VC.heldF_twoL, VC.heldK_eq, VC.okRd, Fa.F17, rdI_of z0, z0, rdI_of z1, z1, rdI_of z2, z2, rdI_of z3, z3, rdI_of z4, z4, rdSA_of y1, rdSN_of y1, rdSC_of y1, y1, VC.Now, VC.vc, VC.lib, VC.regQ, VC.loopK, VC.reg, VC.opP, VC.pv, VC.thenF, VC.blkF, VC.retF, VC.resV, VC.oneV, VC.evo, VC.bin, VC.binI, VC.cmpI, VC.arithI, VC.ldv, VC.slv, VC.pickP, VC.holds, VC.chainOf, VC.look, VC.junk, VC.put, VC.eff, VC.callee, VC.pureB, VC.rdK, VC.rdKs, VC.okKs, VC.eqKs, VC.fillL, VC.putL, VC.stW, VC.stOK, VC.mixF, VC.setAll, Nat.reduceAdd, Nat.reduceSub, Nat.reduceMul, if_true, if_false, ↓reduceIte, forall_const, implies_true, reduceCtorEq, ne_eq, Nat.reduceBNe, Nat.reduceBEq, IntKind.signed, Nat.reduceEqDiff, Nat.reduceLeDiff, Nat.reduceLT, eq_self, Int.reduceEq, Int.reduceLT, Int.reduceLE, Int.reduceAdd, Int.reduceSub, VC.regC_nil, VC.regC_cons, VC.regCK_eq, VC.callQ, VC.tailQ, VC.goCall, VC.chStep]
    have hBw : Below rb w (w5.setCell ⟨mb + 1, 0, none⟩ (.slice A5 (k + 1) c5)) := hBy.trans ((below_drewN (Below.refl rb wy) 1).trans ((st5.trans st6).below hHd))
    refine ⟨ag4.trans (Agree.grown hg5 fun j hj => Or.inr hj), ⟨r1, r2⟩, fits_i64_nat (by omega), SAME.intro (by kernel_rfl), m - 1, by omega, k + 1, vb', vo', vl', .slice A5 (k + 1) c5, V', T', by omega, rfl, by omega, by omega, hBw, ?_, ?_⟩
    · rw [hms]; exact hR'
    · rw [hms]; exact st6.hp
  · obtain rfl : k = len := by omega
    have e7 : ((k : Int) < k) = False := eq_false (by omega)
    generalize hs : mst n (n - f) liars g k = s at *
    generalize hcs : mcodes n (n - f) liars g k = codes at *
    obtain ⟨gb, cb, eb, hgb, _⟩ := ro_blk hH.left hok.nb0
    have b3 := (ro_box hH.left).at (i := 3) rfl
    have eb : vb = .slice (some ⟨gb, 0, none⟩) s.nb cb := eb
    subst eb
    have hmb := (ro_box hH.left).1
    obtain ⟨A0, c0, rfl, _⟩ := id (hH.get 7 rfl : OwnK wx 0 27 1 k vc _)
    have obx : Box wx (mb + 1) [.slice A0 k c0, nilS, nilS, nilS] := hH.get 6 rfl
    have x1 := obx.at (i := 1) rfl
    have fx1 := obx.soft (i := 1) (by show 1 < 4; omega)
    have st1 := hH.setBox 6 rfl 1 (.slice (some ⟨gb, 0, none⟩) s.nb cb)
    simp -dsimp only [Fa.F17, e7, rdSA_of b3, rdSN_of b3, rdSC_of b3, b3, x1, fx1, hmb, VC.Now, VC.vc, VC.lib, VC.regQ, VC.loopK, VC.reg, VC.opP, VC.pv, VC.thenF, VC.blkF, VC.retF, VC.resV, VC.oneV, VC.evo, VC.bin, VC.binI, VC.cmpI, VC.arithI, VC.ldv, VC.slv, VC.pickP, VC.holds, VC.chainOf, VC.look, VC.junk, VC.put, VC.eff, VC.callee, VC.pureB, VC.rdK, VC.rdKs, VC.okKs, VC.eqKs, VC.fillL, VC.putL, VC.stW, VC.stOK, VC.mixF, VC.setAll, Nat.reduceAdd, Nat.reduceSub, Nat.reduceMul, if_true, if_false, ↓reduceIte, forall_const, implies_true, reduceCtorEq, ne_eq, Nat.reduceBNe, Nat.reduceBEq, IntKind.signed, Nat.reduceEqDiff, Nat.reduceLeDiff, Nat.reduceLT, eq_self, Int.reduceEq, Int.reduceLT, Int.reduceLE, Int.reduceAdd, Int.reduceSub, VC.regC_nil, VC.regC_cons, VC.regCK_eq, VC.callQ, VC.tailQ, VC.goCall, VC.chStep]
    have hB1 : Below rb w (wx.setCell ⟨mb + 1, 1, none⟩ (.slice (some ⟨gb, 0, none⟩) s.nb cb)) := hBx.trans (st1.below hH)
    have hH1 := ((st1.hp.st_add (o := oOwn 4 1 0 nilS []) (Below.refl _ _) (OwnK.nil _ _ _ _) (fun g hg => by cases hg)).hp).pick [1, 2, 3, 4, 5, 6, 7, 8, 9, 0] (by decide)
      (RObs n f liars ⟨mb, gv, gk, .slice (some ⟨gb, 0, none⟩) s.nb cb, vo, vl⟩ s V T ++ [oBox (mb + 1) [.slice A0 k c0, .slice (some ⟨gb, 0, none⟩) s.nb cb, nilS, nilS], oOwn 27 1 k (.slice A0 k c0) codes, oBox rb [nilS, nilS, nilS, nilS], oOwn 4 1 0 nilS []]) rfl
    generalize wx.setCell ⟨mb + 1, 1, none⟩ (.slice (some ⟨gb, 0, none⟩) s.nb cb) = w2 at hH1 hB1 ⊢
    clear hH st1 obx x1 fx1 hmb b3 hgb hBx
    refine loop_slots Fa.mix [13] [46, 47, 48, 49, 50, 51, 52, 53, 54, 55, 56, 57, 58, 59, 60, 61, 62] (fun m vs wx => ∃ (j : Nat) (ve : Value), j + m = s.nb ∧ vs = [.int .i64 j] ∧ Below rb w wx ∧
      Hp rb (RObs n f liars ⟨mb, gv, gk, .slice (some ⟨gb, 0, none⟩) s.nb cb, vo, vl⟩ s V T ++ [oBox (mb + 1) [.slice A0 k c0, .slice (some ⟨gb, 0, none⟩) s.nb cb, ve, nilS], oOwn 27 1 k (.slice A0 k c0) codes, oBox rb [nilS, nilS, nilS, nilS], oOwn 4 1 j ve ((List.range j).map fun b => .bool (certB (n - f) s b))]) wx) s.nb (by kernel_rfl) rfl
      ⟨0, nilS, by omega, rfl, hB1, hH1⟩ ?_
    clear hH1 hB1
    rintro m vs u wx ⟨j, ve, hjm, rfl, hBx, hH⟩
    have hnb := hok.nb1
    have b3 := (ro_box hH.left).at (i := 3) rfl
    have hmb := (ro_box hH.left).1
    by_cases hj : j < s.nb
    · have e8 : ((j : Int) < s.nb) = True := eq_true (by omega)
      obtain ⟨Ac, cc, rfl, _⟩ := id (hH.get 9 rfl : OwnK wx 0 4 1 j ve _)
      have y1 := (hH.get 6 rfl : Box wx (mb + 1) _).at (i := 2) rfl
      have hob := (hH.get 6 rfl : Box wx (mb + 1) _).1
      have noc : (Value.slice Ac j cc).ownBlock ≠ some (mb + 1) := fun hf => hH.ne 6 9 (by decide) rfl rfl (mb + 1) rfl hf
      simp -dsimp only [Fa.F17, e8, rdSA_of b3, rdSN_of b3, rdSC_of b3, b3, hmb, VC.Now, VC.vc, VC.lib, VC.regQ, VC.loopK, VC.reg, VC.opP, VC.pv, VC.thenF, VC.blkF, VC.retF, VC.resV, VC.oneV, VC.evo, VC.bin, VC.binI, VC.cmpI, VC.arithI, VC.ldv, VC.slv, VC.pickP, VC.holds, VC.chainOf, VC.look, VC.junk, VC.put, VC.eff, VC.callee, VC.pureB, VC.rdK, VC.rdKs, VC.okKs, VC.eqKs, VC.fillL, VC.putL, VC.stW, VC.stOK, VC.mixF, VC.setAll, Nat.reduceAdd, Nat.reduceSub, Nat.reduceMul, if_true, if_false, ↓reduceIte, forall_const, implies_true, reduceCtorEq, ne_eq, Nat.reduceBNe, Nat.reduceBEq, IntKind.signed, Nat.reduceEqDiff, Nat.reduceLeDiff, Nat.reduceLT, eq_self, Int.reduceEq, Int.reduceLT, Int.reduceLE, Int.reduceAdd, Int.reduceSub, VC.regC_nil, VC.regC_cons, VC.regCK_eq, VC.callQ, VC.tailQ, VC.goCall, VC.chStep]
      refine WP_held 8 (fun x => (Value.slice Ac j cc).ownBlock = some x) (.take 0 (.take 1 (.take 2 (.take 3 (.one 4 (.one 5 (.one 6 (.take 7 (.one 8 .done))))))))) Fa.mix (by kernel_rfl) rfl ?_
      simp -dsimp only [VC.heldF_done, VC.heldF_last, VC.planF_done, VC.planF_take, VC.planF_one, VC.planF_two, VC.planK_eq, VC.heldF_take, VC.heldF_one, VC.heldF_two, VC.heldF_twoL, VC.heldK_eq, VC.okRd, Fa.F17, rdSA_of y1, rdSN_of y1, rdSC_of y1, y1, VC.Now, VC.vc, VC.lib, VC.regQ, VC.loopK, VC.reg, VC.opP, VC.pv, VC.thenF, VC.blkF, VC.retF, VC.resV, VC.oneV, VC.evo, VC.bin, VC.binI, VC.cmpI, VC.arithI, VC.ldv, VC.slv, VC.pickP, VC.holds, VC.chainOf, VC.look, VC.junk, VC.put, VC.eff, VC.callee, VC.pureB, VC.rdK, VC.rdKs, VC.okKs, VC.eqKs, VC.fillL, VC.putL, VC.stW, VC.stOK, VC.mixF, VC.setAll, Nat.reduceAdd, Nat.reduceSub, Nat.reduceMul, if_true, if_false, ↓reduceIte, forall_const, implies_true, reduceCtorEq, ne_eq, Nat.reduceBNe, Nat.reduceBEq, IntKind.signed, Nat.reduceEqDiff, Nat.reduceLeDiff, Nat.reduceLT, eq_self, Int.reduceEq, Int.reduceLT, Int.reduceLE, Int.reduceAdd, Int.reduceSub, VC.regC_nil, VC.regC_cons, VC.regCK_eq, VC.callQ, VC.tailQ, VC.goCall, VC.chStep]
      have hHd := hH.drewN 1
      have ag0 : Agree (fun x => (Value.slice Ac j cc).ownBlock = some x) wx (wx.drewN 1) := Agree.of_below (below_drewN (Below.refl _ wx) 1)
      refine ⟨⟨hob, noc⟩, CALL_by (certR_any hHd.left hR hok (by omega) (by omega) (by omega) hj) fun e w4 hp => ⟨_, hp.1, ?_⟩⟩
      have hw4 := hp.2
      have hH4 := hHd.below hw4
      have ag4 := ag0.trans (Agree.of_below hw4)
      simp -dsimp only [VC.heldF_done, VC.heldF_last, VC.planF_done, VC.planF_take, VC.planF_one, VC.planF_two, VC.planK_eq, VC.heldF_take, VC.heldF_one, VC.heldF_two, VC.heldF_twoL, VC.heldK_eq, VC.okRd, Fa.F17, rdSA_of y1, rdSN_of y1, rdSC_of y1, y1, VC.Now, VC.vc, VC.lib, VC.regQ, VC.loopK, VC.reg, VC.opP, VC.pv, VC.thenF, VC.blkF, VC.retF, VC.resV, VC.oneV, VC.evo, VC.bin, VC.binI, VC.cmpI, VC.arithI, VC.ldv, VC.slv, VC.pickP, VC.holds, VC.chainOf, VC.look, VC.junk, VC.put, VC.eff, VC.callee, VC.pureB, VC.rdK, VC.rdKs, VC.okKs, VC.eqKs, VC.fillL, VC.putL, VC.stW, VC.stOK, VC.mixF, VC.setAll, Nat.reduceAdd, Nat.reduceSub, Nat.reduceMul, if_true, if_false, ↓reduceIte, forall_const, implies_true, reduceCtorEq, ne_eq, Nat.reduceBNe, Nat.reduceBEq, IntKind.signed, Nat.reduceEqDiff, Nat.reduceLeDiff, Nat.reduceLT, eq_self, Int.reduceEq, Int.reduceLT, Int.reduceLE, Int.reduceAdd, Int.reduceSub, VC.regC_nil, VC.regC_cons, VC.regCK_eq, VC.callQ, VC.tailQ, VC.goCall, VC.chStep]
      refine ⟨ag4, ag4.trans (Agree.of_below ((Below.refl _ _).alloc (Nat.le_refl _) _)), ?_⟩
      refine OPW_appK (v := .slice Ac j cc) rfl Fa.apI24 rfl rfl rfl (by simp [Value.oneCell']) (hH4.get 9 rfl) (Nat.zero_le _) (by omega) (by decide) fun v5 w5 ho5 hg5 hst5 => ?_
      have hmc : ((List.range j).map fun b => Value.bool (certB (n - f) s b)) ++ [.bool (certB (n - f) s j)] = (List.range (j + 1)).map fun b => Value.bool (certB (n - f) s b) := by rw [List.range_succ, List.map_append]; rfl
      rw [hmc] at ho5
      obtain ⟨⟨r1, r2⟩, st6⟩ := hH4.growField 6 9 rfl rfl (by decide) ho5 hg5 hst5 2 (by show 2 < 4; omega)
      obtain ⟨A5, c5, rfl, _⟩ := id ho5
      simp -dsimp only [VC.heldF_done, VC.heldF_last, VC.planF_done, VC.planF_take, VC.planF_one, VC.planF_two, VC.planK_eq, VC.heldF_take, VC.heldF_one, VC.heldF_two, VC.heldF_twoL, VC.heldK_eq, VC.okRd, Fa.F17, rdSA_of y1, rdSN_of y1, rdSC_of y1, y1, VC.Now, VC.vc, VC.lib, VC.regQ, VC.loopK, VC.reg, VC.opP, VC.pv, VC.thenF, VC.blkF, VC.retF, VC.resV, VC.oneV, VC.evo, VC.bin, VC.binI, VC.cmpI, VC.arithI, VC.ldv, VC.slv, VC.pickP, VC.holds, VC.chainOf, VC.look, VC.junk, VC.put, VC.eff, VC.callee, VC.pureB, VC.rdK, VC.rdKs, VC.okKs, VC.eqKs, VC.fillL, VC.putL, VC.stW, VC.stOK, VC.mixF, VC.setAll, Nat.reduceAdd, Nat.reduceSub, Nat.reduceMul, if_true, if_false, ↓reduceIte, forall_const, implies_true, reduceCtorEq, ne_eq, Nat.reduceBNe, Nat.reduceBEq, IntKind.signed, Nat.reduceEqDiff, Nat.reduceLeDiff, Nat.reduceLT, eq_self, Int.reduceEq, Int.reduceLT, Int.reduceLE, Int.reduceAdd, Int.reduceSub, VC.regC_nil, VC.regC_cons, VC.regCK_eq, VC.callQ, VC.tailQ, VC.goCall, VC.chStep]
      have hBw : Below rb w (w5.setCell ⟨mb + 1, 2, none⟩ (.slice A5 (j + 1) c5)) := hBx.trans ((below_drewN (Below.refl rb wx) 1).trans ((hw4.mono hHd.base).trans (st6.below hH4)))
      exact ⟨ag4.trans (Agree.grown hg5 fun x hx => hx), ⟨r1, r2⟩, fits_i64_nat (by omega), SAME.intro (by kernel_rfl), m - 1, by omega, j + 1, .slice A5 (j + 1) c5, by omega, rfl, hBw, st6.hp⟩
    · obtain rfl : j = s.nb := by omega
      have e8 : ((s.nb : Int) < s.nb) = False := eq_false (by omega)
      obtain ⟨gb', cb', eb, hgb, hblk⟩ := ro_blk hH.left hok.nb0
      have eb : Value.slice (some ⟨gb, 0, none⟩) s.nb cb = .slice (some ⟨gb', 0, none⟩) s.nb cb' := eb
      cases eb
      obtain ⟨Ac, cc, rfl, _⟩ := id (hH.get 9 rfl : OwnK wx 0 4 1 s.nb ve _)
      have obx : Box wx (mb + 1) [.slice A0 k c0, .slice (some ⟨gb, 0, none⟩) s.nb cb, .slice Ac s.nb cc, nilS] := hH.get 6 rfl
      have x1 := obx.at (i := 1) rfl
      have x2 := obx.at (i := 2) rfl
      have hob := obx.1
      have hrd : RdBlk wx (some ⟨gb, 0, none⟩) s.nb s.p s.r := fun _ => ⟨gb, 0, rfl, hgb, fun i hi => ⟨by rw [Nat.zero_add]; exact (hblk i hi).1, by rw [Nat.zero_add]; exact (hblk i hi).2, ?_, ?_⟩⟩
      rotate_left
      · by_cases h0 : i = 0
        · subst h0; rw [hok.ok.1]; exact fits_i64 (by omega) (by omega)
        · have := hok.par (b := i) (by omega) hi; exact fits_i64 (by omega) (by omega)
      · have := hok.rr i hi; exact fits_i64 (by omega) (by omega)
      have hrC : Rd wx Ac ((certL (n - f) s).map Value.bool) := by
        have := (hH.get 9 rfl : OwnK wx 0 4 1 s.nb (.slice Ac s.nb cc) _).rd.2
        rw [List.map_map]
        exact this
      have hcl : (certL (n - f) s).length = s.nb := by simp [certL]
      have hbc : blkCode s.nb s.p s.r = 0 := blkCode_0 (by omega) (by have := hok.nb0; omega) hok.ok
      simp -dsimp only [Fa.F17, e8, rdSA_of b3, rdSN_of b3, rdSC_of b3, b3, hmb, rdSA_of x1, rdSN_of x1, rdSC_of x1, x1, rdSA_of x2, rdSN_of x2, rdSC_of x2, x2, VC.Now, VC.vc, VC.lib, VC.regQ, VC.loopK, VC.reg, VC.opP, VC.pv, VC.thenF, VC.blkF, VC.retF, VC.resV, VC.oneV, VC.evo, VC.bin, VC.binI, VC.cmpI, VC.arithI, VC.ldv, VC.slv, VC.pickP, VC.holds, VC.chainOf, VC.look, VC.junk, VC.put, VC.eff, VC.callee, VC.pureB, VC.rdK, VC.rdKs, VC.okKs, VC.eqKs, VC.fillL, VC.putL, VC.stW, VC.stOK, VC.mixF, VC.setAll, Nat.reduceAdd, Nat.reduceSub, Nat.reduceMul, if_true, if_false, ↓reduceIte, forall_const, implies_true, reduceCtorEq, ne_eq, Nat.reduceBNe, Nat.reduceBEq, IntKind.signed, Nat.reduceEqDiff, Nat.reduceLeDiff, Nat.reduceLT, eq_self, Int.reduceEq, Int.reduceLT, Int.reduceLE, Int.reduceAdd, Int.reduceSub, VC.regC_nil, VC.regC_cons, VC.regCK_eq, VC.callQ, VC.tailQ, VC.goCall, VC.chStep]
      refine CALL_ex (decidedRef_any _ _ s.nb cb cc s.p s.r (certL (n - f) s) wx hrd hrC hcl hbc) fun v w3 ⟨hoD, hw3⟩ => ?_
      have hlen2 : ((onL s.nb (decF (certL (n - f) s) s.p s.r s.nb)).map Value.bool).length = s.nb := by rw [List.length_map, onL_length]
      obtain ⟨D, q, rfl, _⟩ := id hoD
      rw [hlen2] at hoD ⊢
      have hD : OwnK w3 wx.heap.size 4 1 s.nb (.slice D s.nb q) ((onL s.nb (decF (certL (n - f) s) s.p s.r s.nb)).map Value.bool) := by
        have := OwnK.of_own hoD
        rw [hlen2] at this
        exact this
      have hH3 := (hH.st_add hw3 (o := oOwn 4 1 s.nb (.slice D s.nb q) ((onL s.nb (decF (certL (n - f) s) s.p s.r s.nb)).map Value.bool)) (hD.mono (Nat.zero_le _)) (fun g hg => (hD.lt hg).1)).hp
      have hB3 : Below rb w w3 := hBx.trans (hw3.mono hH.base)
      have st4 := hH3.setBox 7 rfl 3 (.slice D s.nb q)
      have ob3 : Box w3 (mb + 1) [.slice A0 k c0, .slice (some ⟨gb, 0, none⟩) s.nb cb, .slice Ac s.nb cc, nilS] := hH3.get 7 rfl
      have k3 := ob3.at (i := 3) rfl
      have f3 := ob3.soft (i := 3) (by show 3 < 4; omega)
      have ob4 : Box (w3.setCell ⟨mb + 1, 3, none⟩ (.slice D s.nb q)) (mb + 1) [.slice A0 k c0, .slice (some ⟨gb, 0, none⟩) s.nb cb, .slice Ac s.nb cc, .slice D s.nb q] := st4.hp.get 7 rfl
      obtain ⟨o5, st5⟩ := st4.hp.allBox 9 rfl (vs := [.slice A0 k c0, .slice (some ⟨gb, 0, none⟩) s.nb cb, .slice Ac s.nb cc, .slice D s.nb q]) rfl (by intro v hv; simp at hv; rcases hv with rfl | rfl | rfl | rfl <;> rfl)
      have y0 := ob4.at (i := 0) rfl
      have y1 := ob4.at (i := 1) rfl
      have y2 := ob4.at (i := 2) rfl
      have y3 := ob4.at (i := 3) rfl
      have rb5 : Box _ rb [.slice A0 k c0, .slice (some ⟨gb, 0, none⟩) s.nb cb, .slice Ac s.nb cc, .slice D s.nb q] := st5.hp.get 9 rfl
      have t0 := rb5.at (i := 0) rfl
      have t1 := rb5.at (i := 1) rfl
      have t2 := rb5.at (i := 2) rfl
      have t3 := rb5.at (i := 3) rfl
      rw [VC.Now, VC.seqK_eq]
      simp -dsimp only [Fa.F17, k3, f3, stOK_one, stW_one, rdSA_of y0, rdSN_of y0, rdSC_of y0, y0, rdSA_of y1, rdSN_of y1, rdSC_of y1, y1, rdSA_of y2, rdSN_of y2, rdSC_of y2, y2, rdSA_of y3, rdSN_of y3, rdSC_of y3, y3, rdSA_of t0, rdSN_of t0, rdSC_of t0, t0, rdSA_of t1, rdSN_of t1, rdSC_of t1, t1, rdSA_of t2, rdSN_of t2, rdSC_of t2, t2, rdSA_of t3, rdSN_of t3, rdSC_of t3, t3, VC.Now, VC.vc, VC.lib, VC.regQ, VC.loopK, VC.reg, VC.opP, VC.pv, VC.thenF, VC.blkF, VC.retF, VC.resV, VC.oneV, VC.evo, VC.bin, VC.binI, VC.cmpI, VC.arithI, VC.ldv, VC.slv, VC.pickP, VC.holds, VC.chainOf, VC.look, VC.junk, VC.put, VC.eff, VC.callee, VC.pureB, VC.rdK, VC.rdKs, VC.okKs, VC.eqKs, VC.fillL, VC.putL, VC.mixF, VC.setAll, Nat.reduceAdd, Nat.reduceSub, Nat.reduceMul, if_true, if_false, ↓reduceIte, forall_const, implies_true, reduceCtorEq, ne_eq, Nat.reduceBNe, Nat.reduceBEq, IntKind.signed, Nat.reduceEqDiff, Nat.reduceLeDiff, Nat.reduceLT, eq_self, Int.reduceEq, Int.reduceLT, Int.reduceLE, Int.reduceAdd, Int.reduceSub, VC.regC_nil, VC.regC_cons, VC.regCK_eq, VC.callQ, VC.tailQ, VC.goCall, VC.chStep]
      have hB5 := hB3.trans ((st4.trans st5).below hH3)
      have h5 := st5.hp
      generalize stW (w3.setCell ⟨mb + 1, 3, none⟩ (.slice D s.nb q)) ⟨rb, 0, none⟩ 0 [.slice A0 k c0, .slice (some ⟨gb, 0, none⟩) s.nb cb, .slice Ac s.nb cc, .slice D s.nb q] = w5 at h5 hB5 ⊢
      have hMV : MeetV n (n - f) liars g k (.agg #[.slice A0 k c0, .slice (some ⟨gb, 0, none⟩) s.nb cb, .slice Ac s.nb cc, .slice D s.nb q]) w5 := by
        have ob : OwnK w5 0 116 2 s.nb (.slice (some ⟨gb, 0, none⟩) s.nb cb) (blkC s.p s.r s.nb) := h5.get 2 rfl
        have hg5 : gb < w5.heap.size := (ob.lt (g := gb) rfl).2
        unfold MeetV
        rw [hs, hcs]
        refine ⟨A0, c0, some ⟨gb, 0, none⟩, cb, Ac, cc, D, q, rfl, (h5.get 8 rfl : OwnK w5 0 27 1 k (.slice A0 k c0) codes).rd.2, fun _ => ⟨gb, 0, rfl, hg5, fun i hi => ?_⟩, ?_, (h5.get 0 rfl : OwnK w5 0 4 1 s.nb (.slice D s.nb q) _).rd.2⟩
        · obtain ⟨h1, h2⟩ := blkC_at s.p s.r hi
          refine ⟨by rw [Nat.zero_add]; exact (ob.at (by omega)).1.trans h1, by rw [Nat.zero_add]; exact (ob.at (by omega)).1.trans h2, ?_, ?_⟩
          · by_cases h0 : i = 0
            · subst h0; rw [hok.ok.1]; exact fits_i64 (by omega) (by omega)
            · have := hok.par (b := i) (by omega) hi; exact fits_i64 (by omega) (by omega)
          · have := hok.rr i hi; exact fits_i64 (by omega) (by omega)
        · have := (h5.get 10 rfl : OwnK w5 0 4 1 s.nb (.slice Ac s.nb cc) _).rd.2
          rw [List.map_map]
          exact this
      exact ⟨o5, _, rfl, hMV, by rw [hrb]; exact hB5⟩
end
end Go.Proofs.Ytnggjekppdlaoaa
