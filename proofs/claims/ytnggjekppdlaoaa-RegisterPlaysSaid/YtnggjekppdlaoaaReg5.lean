/- Many copies as one: the program's whole run. -/
import Derived.Test.YtnggjekppdlaoaaReg4
import Derived.Test.YtnggjekppdlaoaaRegRd
namespace Go.Proofs.Ytnggjekppdlaoaa
open Go Go.RowKit Go.VC
set_option linter.unusedSimpArgs false
set_option linter.unusedVariables false
section
variable {w : World}

set_option maxRecDepth 8000 in
set_option maxHeartbeats 8000000 in
theorem rplay_any (A : Option Addr) (n len cap : Nat) (g : Nat → Call) (w : World) (hr : RdCall w A len g) (h1 : 1 ≤ n) (h5 : n ≤ 5) (hlen : len ≤ 120) :
    Calls Try.prog 19 #[.int .i64 n, .slice A len cap] w fun e w' => ∃ v, e = .returned (.tuple #[v, .int .i64 0]) ∧ RegV n g len v w' ∧ Below w.heap.size w w' := by
  have e1 : ((n : Int) < 1) = False := eq_false (by omega)
  have e2 : ((5 : Int) < n) = False := eq_false (by omega)
  have e3 : ((120 : Int) < len) = False := eq_false (by omega)
  have hB0 : Below w.heap.size w (w.alloc (.cells #[nilS, nilS] 57)) := (Below.refl _ _).alloc (Nat.le_refl _) _
  have hH0 := (Hp.nil (B := w.heap.size) (Nat.le_refl _)).st_add (o := oBox w.heap.size [nilS, nilS]) hB0 (Box.new w _ _) (fun g hg => by cases hg; exact Nat.le_refl _)
  replace hH0 := hH0.hp
  have hz0 : (w.alloc (.cells #[nilS, nilS] 57)).heap.size = w.heap.size + 1 := by simp
  refine calls_vc (rs := [.cell 4 57, .tmp 5]) Fa.mix Try.func19 rfl Try.ntmps19 rfl (by kernel_rfl) (Nat.le_of_ble_eq_true rfl) ?_
  (repeat rw [vc_seq]); refine vc_plain _ fun Q hQ => ?_; simp -dsimp only [Fa.F19, e1, e2, e3, VC.Now, VC.vc_skip, VC.vc_ret, VC.vc_exit, VC.vc_block, VC.vc_cond, VC.vc_region, VC.lib, VC.regQ, VC.loopK, VC.reg, VC.opP, VC.pv, VC.thenF, VC.blkF, VC.retF, VC.resV, VC.oneV, VC.evo, VC.bin, VC.binI, VC.cmpI, VC.arithI, VC.ldv, VC.slv, VC.pickP, VC.holds, VC.chainOf, VC.look, VC.junk, VC.put, VC.eff, VC.callee, VC.pureB, VC.rdK, VC.rdKs, VC.okKs, VC.eqKs, VC.fillL, VC.putL, VC.stW, VC.stOK, VC.mixF, VC.setAll, Nat.reduceAdd, Nat.reduceSub, Nat.reduceMul, if_true, if_false, ↓reduceIte, forall_const, implies_true, reduceCtorEq, ne_eq, Nat.reduceBNe, Nat.reduceBEq, IntKind.signed, Nat.reduceEqDiff, Nat.reduceLeDiff, Nat.reduceLT, eq_self, Int.reduceEq, Int.reduceLT, Int.reduceLE, Int.reduceAdd, Int.reduceSub, VC.regC_nil, VC.regC_cons, VC.regCK_eq, VC.callQ, VC.tailQ, VC.goCall, VC.chStep]
  change Q _ _ (w.alloc (.cells #[nilS, nilS] 57))
  generalize w.alloc (.cells #[nilS, nilS] 57) = wa at hH0 hB0 hz0 ⊢
  generalize hrb : w.heap.size = rb at hH0 hB0 hz0 ⊢
  subst hQ
  simp -dsimp only [Fa.F19, e1, e2, e3, VC.Now, VC.vc, VC.lib, VC.regQ, VC.loopK, VC.reg, VC.opP, VC.pv, VC.thenF, VC.blkF, VC.retF, VC.resV, VC.oneV, VC.evo, VC.bin, VC.binI, VC.cmpI, VC.arithI, VC.ldv, VC.slv, VC.pickP, VC.holds, VC.chainOf, VC.look, VC.junk, VC.put, VC.eff, VC.callee, VC.pureB, VC.rdK, VC.rdKs, VC.okKs, VC.eqKs, VC.fillL, VC.putL, VC.mixF, VC.setAll, Nat.reduceAdd, Nat.reduceSub, Nat.reduceMul, if_true, if_false, ↓reduceIte, forall_const, implies_true, reduceCtorEq, ne_eq, Nat.reduceBNe, Nat.reduceBEq, IntKind.signed, Nat.reduceEqDiff, Nat.reduceLeDiff, Nat.reduceLT, eq_self, Int.reduceEq, Int.reduceLT, Int.reduceLE, Int.reduceAdd, Int.reduceSub, VC.regC_nil, VC.regC_cons, VC.regCK_eq, VC.callQ, VC.tailQ, VC.goCall, VC.chStep]
  intro u
  refine OPW_makeK (n := n) (base := 0) rfl Fa.apI135 rfl rfl rfl rfl (by omega) (by omega) (Nat.zero_le _) fun w4 ho4 hg4 => ?_
  have hB4 : Below wa.heap.size wa w4 := (Below.refl _ _).grown hg4 (Nat.le_refl _) fun k hk => by cases hk
  have hl4 : wa.heap.size < w4.heap.size := (ho4.lt (g := wa.heap.size) rfl).2
  have hH1 := (hH0.st_add (o := oRecs wa.heap.size n 3 (fun _ => stL sto0)) hB4 (Recs.of_own (cs := fun _ => stL sto0) ho4 hl4 (fun i hi j hj => made_at _ rfl hi hj)) (fun g hg => by cases hg; exact Nat.le_refl _)).hp
  have hBb := hB0.trans (hB4.mono (by omega))
  rw [VC.Now, VC.seqK_eq]
  generalize hgm : wa.heap.size = gc at hH1 ⊢
  simp -dsimp only [Fa.F19, e1, e2, e3, VC.Now, VC.vc, VC.lib, VC.regQ, VC.loopK, VC.reg, VC.opP, VC.pv, VC.thenF, VC.blkF, VC.retF, VC.resV, VC.oneV, VC.evo, VC.bin, VC.binI, VC.cmpI, VC.arithI, VC.ldv, VC.slv, VC.pickP, VC.holds, VC.chainOf, VC.look, VC.junk, VC.put, VC.eff, VC.callee, VC.pureB, VC.rdK, VC.rdKs, VC.okKs, VC.eqKs, VC.fillL, VC.putL, VC.mixF, VC.setAll, Nat.reduceAdd, Nat.reduceSub, Nat.reduceMul, if_true, if_false, ↓reduceIte, forall_const, implies_true, reduceCtorEq, ne_eq, Nat.reduceBNe, Nat.reduceBEq, IntKind.signed, Nat.reduceEqDiff, Nat.reduceLeDiff, Nat.reduceLT, eq_self, Int.reduceEq, Int.reduceLT, Int.reduceLE, Int.reduceAdd, Int.reduceSub, VC.regC_nil, VC.regC_cons, VC.regCK_eq, VC.callQ, VC.tailQ, VC.goCall, VC.chStep]
  have hH2 := (hH1.st_add (o := oBox w4.heap.size (worldC n ⟨w4.heap.size, gc, nilS, fun _ => 0, fun _ => 0⟩ rs0)) ((Below.refl _ _).alloc (Nat.le_refl _) (.cells _ _)) (Box.new w4 _ 140) (fun g hg => by cases hg; exact Nat.le_refl _)).hp
  have hB2 : Below w4.heap.size w4 (w4.alloc (.cells (worldC n ⟨w4.heap.size, gc, nilS, fun _ => 0, fun _ => 0⟩ rs0).toArray 140)) := (Below.refl _ _).alloc (Nat.le_refl _) _
  have hz2 : (w4.alloc (.cells (worldC n ⟨w4.heap.size, gc, nilS, fun _ => 0, fun _ => 0⟩ rs0).toArray 140)).heap.size = w4.heap.size + 1 := by simp
  change WP _ _ _ _ _ _ ((w4.alloc (.cells (worldC n ⟨w4.heap.size, gc, nilS, fun _ => 0, fun _ => 0⟩ rs0).toArray 140)).alloc _)
  have hBc := hBb.trans (hB2.mono (by omega))
  generalize w4.alloc (.cells (worldC n ⟨w4.heap.size, gc, nilS, fun _ => 0, fun _ => 0⟩ rs0).toArray 140) = w3 at hH2 hB2 hz2 hBc ⊢
  have hH4 := (hH2.st_add (o := oBox w3.heap.size [nilS, nilS]) ((Below.refl _ _).alloc (Nat.le_refl _) (.cells _ _)) (Box.new w3 _ 57) (fun g hg => by cases hg; exact Nat.le_refl _)).hp
  have hB5 : Below w3.heap.size w3 (w3.alloc (.cells #[nilS, nilS] 57)) := (Below.refl _ _).alloc (Nat.le_refl _) _
  change Hp _ _ (w3.alloc (.cells #[nilS, nilS] 57)) at hH4
  have hBd := hBc.trans (hB5.mono (by omega))
  generalize w3.alloc (.cells #[nilS, nilS] 57) = w5 at hH4 hBd ⊢
  rw [hz2] at hH4
  generalize w4.heap.size = mb at hH4 ⊢
  have hH8 := ((hH4.st_add (o := oOwn 27 1 0 nilS []) (Below.refl _ _) (OwnK.nil _ _ _ _) (fun g hg => by cases hg)).hp.st_add (o := oOwn 137 1 0 nilS []) (Below.refl _ _) (OwnK.nil _ _ _ _) (fun g hg => by cases hg)).hp
  have hH9 := hH8.pick [2, 1, 5, 3, 4, 0] (by decide) ([oBox (mb + 1) [nilS, nilS], oOwn 27 1 0 nilS [], oBox rb [nilS, nilS]] ++ GObs n ⟨mb, gc, nilS, fun _ => 0, fun _ => 0⟩ rs0) rfl
  clear hH0 hH1 hH2 hH4 hH8 hB0 hBb hBc hB2 hB4 hB5 ho4 hg4
  refine loop_slots Fa.mix [30] [8, 9, 31, 32, 33, 34, 35, 36, 37, 38, 39, 40, 41, 42, 43, 44] (fun m vs wx => ∃ (k : Nat) (vo vc : Value) (pb ab : Nat → Nat), k + m = len ∧ vs = [.int .i64 k] ∧ Below rb w wx ∧
      Hp rb ([oBox (mb + 1) [vc, nilS], oOwn 27 1 k vc (rcodes n g k), oBox rb [nilS, nilS]] ++ GObs n ⟨mb, gc, vo, pb, ab⟩ (rst n g k)) wx) len (by kernel_rfl) rfl
    ⟨0, nilS, nilS, _, _, by omega, rfl, hBd, hH9⟩ ?_
  clear hH9 hBd
  rintro m vs u2 wx ⟨k, vo, vc, pb, ab, hkm, rfl, hBx, hH⟩
  have hok := rok n g k
  by_cases hk : k < len
  · obtain ⟨b, o, rfl, hb, hc⟩ := (hr.below (by rw [hrb]; exact hBx)) (by omega)
    obtain ⟨s0, s1, s2, s3, s4, s5⟩ := hc k hk
    have e7 : ((k : Int) < len) = True := eq_true (by omega)
    have hms : rst n g (k + 1) = (rstep n (g k) k (rst n g k)).2 := rfl
    have hmc : rcodes n g (k + 1) = rcodes n g k ++ [.int .i64 (rstep n (g k) k (rst n g k)).1] := by
      unfold rcodes; rw [List.range_succ, List.map_append]; rfl
    generalize rst n g k = s at *
    generalize hgk : g k = c at *
    obtain ⟨Ac, cc, rfl, _⟩ := id (hH.get 1 rfl : OwnK wx 0 27 1 k vc _)
    simp -dsimp only [Fa.F19, e7, rdI_of s0, s0, rdI_of s1, s1, rdI_of s2, s2, rdI_of s3, s3, rdB_of s4, s4, rdI_of s5, s5, Int.toNat_natCast, VC.Now, VC.vc, VC.lib, VC.regQ, VC.loopK, VC.reg, VC.opP, VC.pv, VC.thenF, VC.blkF, VC.retF, VC.resV, VC.oneV, VC.evo, VC.bin, VC.binI, VC.cmpI, VC.arithI, VC.ldv, VC.slv, VC.pickP, VC.holds, VC.chainOf, VC.look, VC.junk, VC.put, VC.eff, VC.callee, VC.pureB, VC.rdK, VC.rdKs, VC.okKs, VC.eqKs, VC.fillL, VC.putL, VC.stW, VC.stOK, VC.mixF, VC.setAll, Nat.reduceAdd, Nat.reduceSub, Nat.reduceMul, if_true, if_false, ↓reduceIte, forall_const, implies_true, reduceCtorEq, ne_eq, Nat.reduceBNe, Nat.reduceBEq, IntKind.signed, Nat.reduceEqDiff, Nat.reduceLeDiff, Nat.reduceLT, eq_self, Int.reduceEq, Int.reduceLT, Int.reduceLE, Int.reduceAdd, Int.reduceSub, VC.regC_nil, VC.regC_cons, VC.regCK_eq, VC.callQ, VC.tailQ, VC.goCall, VC.chStep]
    refine ⟨by omega, ?_⟩
    have hsay : Box (wx.alloc (.cells (callL c).toArray 142)) wx.heap.size (callL c) := Box.new wx _ _
    have hBs : Below wx.heap.size wx (wx.alloc (.cells (callL c).toArray 142)) := (Below.refl _ _).alloc (Nat.le_refl _) _
    change WP _ _ _ _ _ _ (wx.alloc (.cells (callL c).toArray 142))
    generalize wx.alloc (.cells (callL c).toArray 142) = wy at hsay hBs ⊢
    have hHy := (hH.below hBs).perm (List.perm_append_comm)
    have hBy : Below rb w wy := hBx.trans (hBs.mono hH.base)
    have nsay : ¬ foot (GObs n ⟨mb, gc, vo, pb, ab⟩ s) wx.heap.size := fun hf => by have := ((hH.perm (List.perm_append_comm)).left.foot_lt hf).2; omega
    have nsc : (Value.slice Ac k cc).ownBlock ≠ some wx.heap.size := fun hf => by have := (hH.lt 1 rfl hf).2; omega
    generalize wx.heap.size = sb at hsay hBs nsay nsc ⊢
    have hby := hsay.1
    have z0 := hsay.at (i := 0) rfl
    have z1 := hsay.at (i := 1) rfl
    have z2 := hsay.at (i := 2) rfl
    have z3 := hsay.at (i := 3) rfl
    have z4 := hsay.at (i := 4) rfl
    have z5 := hsay.at (i := 5) rfl
    have hHz := hHy.perm (List.perm_append_comm)
    have y1 := (hHz.get 0 rfl : Box wy (mb + 1) _).at (i := 0) rfl
    have hob := (hHz.get 0 rfl : Box wy (mb + 1) _).1
    have nob := hHy.not_foot (L := GObs n ⟨mb, gc, vo, pb, ab⟩ s) 0 rfl (j := mb + 1) rfl
    have noc : (Value.slice Ac k cc).ownBlock ≠ some (mb + 1) := fun hf => hHz.ne 0 1 (by decide) rfl rfl (mb + 1) rfl hf
    refine WP_held 9 (fun j => foot (GObs n ⟨mb, gc, vo, pb, ab⟩ s) j ∨ (Value.slice Ac k cc).ownBlock = some j) (.take 0 (.take 1 (.take 2 (.take 3 (.take 4 (.one 5 (.one 6 (.one 7 (.take 8 (.one 9 .done)))))))))) Fa.mix (by kernel_rfl) rfl ?_
    simp -dsimp only [VC.heldF_done, VC.heldF_last, VC.planF_done, VC.planF_take, VC.planF_one, VC.planF_two, VC.planK_eq, VC.heldF_take, VC.heldF_one, VC.heldF_two, VC.heldF_twoL, VC.heldK_eq, VC.okRd, Fa.F19, rdI_of z0, z0, rdI_of z1, z1, rdI_of z2, z2, rdI_of z3, z3, rdB_of z4, z4, rdI_of z5, z5, rdSA_of y1, rdSN_of y1, rdSC_of y1, y1, VC.Now, VC.vc, VC.lib, VC.regQ, VC.loopK, VC.reg, VC.opP, VC.pv, VC.thenF, VC.blkF, VC.retF, VC.resV, VC.oneV, VC.evo, VC.bin, VC.binI, VC.cmpI, VC.arithI, VC.ldv, VC.slv, VC.pickP, VC.holds, VC.chainOf, VC.look, VC.junk, VC.put, VC.eff, VC.callee, VC.pureB, VC.rdK, VC.rdKs, VC.okKs, VC.eqKs, VC.fillL, VC.putL, VC.stW, VC.stOK, VC.mixF, VC.setAll, Nat.reduceAdd, Nat.reduceSub, Nat.reduceMul, if_true, if_false, ↓reduceIte, forall_const, implies_true, reduceCtorEq, ne_eq, Nat.reduceBNe, Nat.reduceBEq, IntKind.signed, Nat.reduceEqDiff, Nat.reduceLeDiff, Nat.reduceLT, eq_self, Int.reduceEq, Int.reduceLT, Int.reduceLE, Int.reduceAdd, Int.reduceSub, VC.regC_nil, VC.regC_cons, VC.regCK_eq, VC.callQ, VC.tailQ, VC.goCall, VC.chStep]
    have hHd := hHy.drewN 1
    have ag0 : Agree (fun j => foot (GObs n ⟨mb, gc, vo, pb, ab⟩ s) j ∨ (Value.slice Ac k cc).ownBlock = some j) wy (wy.drewN 1) := Agree.of_below (below_drewN (Below.refl _ wy) 1)
    refine ⟨⟨hob, fun h => h.elim nob noc⟩, ⟨hby, fun h => h.elim nsay nsc⟩, ?_⟩
    refine CALL_by (rstep_any (n := n) (t := k) (a := ⟨mb, gc, vo, pb, ab⟩) (s := s) hHd.left hok h5 (by omega) c) fun e w4 hp => ⟨_, hp.1, ?_⟩
    obtain ⟨_, ⟨mb', gc', vo', pb', ab'⟩, h2, h3, st4⟩ := hp
    have h2 : mb' = mb := h2
    have h3 : gc' = gc := h3
    subst mb' gc'
    have st5 := (st4.part hHd).perm List.perm_append_comm List.perm_append_comm
    have ag4 := ag0.trans (st4.agree.mono fun j _ hj => Or.inl hj)
    have hH4 := st5.hp
    simp -dsimp only [VC.heldF_done, VC.heldF_last, VC.planF_done, VC.planF_take, VC.planF_one, VC.planF_two, VC.planK_eq, VC.heldF_take, VC.heldF_one, VC.heldF_two, VC.heldF_twoL, VC.heldK_eq, VC.okRd, Fa.F19, rdI_of z0, z0, rdI_of z1, z1, rdI_of z2, z2, rdI_of z3, z3, rdB_of z4, z4, rdI_of z5, z5, rdSA_of y1, rdSN_of y1, rdSC_of y1, y1, VC.Now, VC.vc, VC.lib, VC.regQ, VC.loopK, VC.reg, VC.opP, VC.pv, VC.thenF, VC.blkF, VC.retF, VC.resV, VC.oneV, VC.evo, VC.bin, VC.binI, VC.cmpI, VC.arithI, VC.ldv, VC.slv, VC.pickP, VC.holds, VC.chainOf, VC.look, VC.junk, VC.put, VC.eff, VC.callee, VC.pureB, VC.rdK, VC.rdKs, VC.okKs, VC.eqKs, VC.fillL, VC.putL, VC.stW, VC.stOK, VC.mixF, VC.setAll, Nat.reduceAdd, Nat.reduceSub, Nat.reduceMul, if_true, if_false, ↓reduceIte, forall_const, implies_true, reduceCtorEq, ne_eq, Nat.reduceBNe, Nat.reduceBEq, IntKind.signed, Nat.reduceEqDiff, Nat.reduceLeDiff, Nat.reduceLT, eq_self, Int.reduceEq, Int.reduceLT, Int.reduceLE, Int.reduceAdd, Int.reduceSub, VC.regC_nil, VC.regC_cons, VC.regCK_eq, VC.callQ, VC.tailQ, VC.goCall, VC.chStep]
    refine ⟨ag4, ag4.trans (Agree.of_below ((Below.refl _ _).alloc (Nat.le_refl _) _)), ?_⟩
    refine OPW_appK (v := .slice Ac k cc) rfl Fa.apI23 rfl rfl rfl (by simp [Value.oneCell']) (hH4.get 1 rfl) (Nat.zero_le _) (by omega) (by decide) fun v5 w5 ho5 hg5 hst5 => ?_
    rw [← hmc] at ho5
    obtain ⟨⟨r1, r2⟩, st6⟩ := hH4.growField 0 1 rfl rfl (by decide) ho5 hg5 hst5 0 (by show 0 < 2; omega)
    obtain ⟨A5, c5, rfl, _⟩ := id ho5
    simp -dsimp only [VC.heldF_done, VC.heldF_last, VC.planF_done, VC.planF_take, VC.planF_one, VC.planF_two, VC.planK_eq, VC.heldF_take, VC.heldF_one, VC.heldF_two, VC.heldF_twoL, VC.heldK_eq, VC.okRd, Fa.F19, rdI_of z0, z0, rdI_of z1, z1, rdI_of z2, z2, rdI_of z3, z3, rdB_of z4, z4, rdI_of z5, z5, rdSA_of y1, rdSN_of y1, rdSC_of y1, y1, VC.Now, VC.vc, VC.lib, VC.regQ, VC.loopK, VC.reg, VC.opP, VC.pv, VC.thenF, VC.blkF, VC.retF, VC.resV, VC.oneV, VC.evo, VC.bin, VC.binI, VC.cmpI, VC.arithI, VC.ldv, VC.slv, VC.pickP, VC.holds, VC.chainOf, VC.look, VC.junk, VC.put, VC.eff, VC.callee, VC.pureB, VC.rdK, VC.rdKs, VC.okKs, VC.eqKs, VC.fillL, VC.putL, VC.stW, VC.stOK, VC.mixF, VC.setAll, Nat.reduceAdd, Nat.reduceSub, Nat.reduceMul, if_true, if_false, ↓reduceIte, forall_const, implies_true, reduceCtorEq, ne_eq, Nat.reduceBNe, Nat.reduceBEq, IntKind.signed, Nat.reduceEqDiff, Nat.reduceLeDiff, Nat.reduceLT, eq_self, Int.reduceEq, Int.reduceLT, Int.reduceLE, Int.reduceAdd, Int.reduceSub, VC.regC_nil, VC.regC_cons, VC.regCK_eq, VC.callQ, VC.tailQ, VC.goCall, VC.chStep]
    have hBw : Below rb w (w5.setCell ⟨mb + 1, 0, none⟩ (.slice A5 (k + 1) c5)) := hBy.trans ((below_drewN (Below.refl rb wy) 1).trans ((st5.trans st6).below (hHd.perm List.perm_append_comm)))
    refine ⟨ag4.trans (Agree.grown hg5 fun j hj => Or.inr hj), ⟨r1, r2⟩, fits_i64_nat (by omega), SAME.intro (by kernel_rfl), m - 1, by omega, k + 1, vo', .slice A5 (k + 1) c5, pb', ab', by omega, rfl, hBw, ?_⟩
    rw [hms]
    exact st6.hp
  · obtain rfl : k = len := by omega
    have e7 : ((k : Int) < k) = False := eq_false (by omega)
    have hkk := hok.k
    unfold RegV
    generalize rst n g k = s at *
    generalize hcs : rcodes n g k = codes at *
    have hbx : Box wx mb (worldC n ⟨mb, gc, vo, pb, ab⟩ s) := hH.get 3 rfl
    have b1 := hbx.at (i := 1) rfl
    have hbl := hbx.1
    obtain ⟨Ao, co, eo, _⟩ := id (hH.get 5 rfl : OwnK wx 0 137 1 s.k vo (ptrs ⟨mb, gc, vo, pb, ab⟩ s.k))
    subst eo
    simp -dsimp only [Fa.F19, e7, rdSA_of b1, rdSN_of b1, rdSC_of b1, b1, hbl, VC.Now, VC.vc, VC.lib, VC.regQ, VC.loopK, VC.reg, VC.opP, VC.pv, VC.thenF, VC.blkF, VC.retF, VC.resV, VC.oneV, VC.evo, VC.bin, VC.binI, VC.cmpI, VC.arithI, VC.ldv, VC.slv, VC.pickP, VC.holds, VC.chainOf, VC.look, VC.junk, VC.put, VC.eff, VC.callee, VC.pureB, VC.rdK, VC.rdKs, VC.okKs, VC.eqKs, VC.fillL, VC.putL, VC.stW, VC.stOK, VC.mixF, VC.setAll, Nat.reduceAdd, Nat.reduceSub, Nat.reduceMul, if_true, if_false, ↓reduceIte, forall_const, implies_true, reduceCtorEq, ne_eq, Nat.reduceBNe, Nat.reduceBEq, IntKind.signed, Nat.reduceEqDiff, Nat.reduceLeDiff, Nat.reduceLT, eq_self, Int.reduceEq, Int.reduceLT, Int.reduceLE, Int.reduceAdd, Int.reduceSub, VC.regC_nil, VC.regC_cons, VC.regCK_eq, VC.callQ, VC.tailQ, VC.goCall, VC.chStep]
    have hH2 := ((hH.st_add (o := oOwn 145 6 0 nilS []) (Below.refl _ _) (OwnK.nil _ _ _ _) (fun g hg => by cases hg)).hp)
    refine loop_slots Fa.mix [50] [11, 51, 52, 53, 54, 55, 56, 57, 58, 59, 60, 61, 62, 63, 64, 65] (fun m vs wx => ∃ (j : Nat) (ve : Value), j + m = s.k ∧ vs = [.int .i64 j] ∧ Below rb w wx ∧
      Hp rb (oOwn 145 6 j ve (seqC (opsP s) j) :: ([oBox (mb + 1) [vc, ve], oOwn 27 1 k vc codes, oBox rb [nilS, nilS]] ++ GObs n ⟨mb, gc, .slice Ao s.k co, pb, ab⟩ s)) wx) s.k (by kernel_rfl) rfl
      ⟨0, nilS, by omega, rfl, hBx, hH2⟩ ?_
    clear hH hH2 hBx b1 hbx hbl
    rintro m vs u wx ⟨j, ve, hjm, rfl, hBx, hH⟩
    by_cases hj : j < s.k
    · have e8 : ((j : Int) < s.k) = True := eq_true (by omega)
      have hG : Hp rb (GObs n ⟨mb, gc, .slice Ao s.k co, pb, ab⟩ s) wx := hH.sub (List.Sublist.cons _ (List.sublist_append_right _ _))
      obtain ⟨g0, c0, eg, hg0, hops⟩ := g_ops hG hj
      have eg : Value.slice Ao s.k co = .slice (some ⟨g0, 0, none⟩) s.k c0 := eg
      cases eg
      have p1 := hops j hj
      obtain ⟨bp, bo⟩ := g_op hG hj
      have q0 := bp.at (i := 0) rfl
      have hpl := bp.1
      have o0 := bo.at (i := 0) rfl
      have o1 := bo.at (i := 1) rfl
      have o2 := bo.at (i := 2) rfl
      have o3 := bo.at (i := 3) rfl
      have o4 := bo.at (i := 4) rfl
      have o5 := bo.at (i := 5) rfl
      have hal := bo.1
      obtain ⟨Ac, cc, rfl, _⟩ := id (hH.get 0 rfl : OwnK wx 0 145 6 j ve _)
      have y1 := (hH.get 1 rfl : Box wx (mb + 1) _).at (i := 1) rfl
      have hob := (hH.get 1 rfl : Box wx (mb + 1) _).1
      have noc : ¬ (Value.slice Ac j cc).ownBlock = some (mb + 1) := fun hf => hH.ne 1 0 (by decide) rfl rfl (mb + 1) rfl hf
      have memP : oBox (pb j) (opC ⟨mb, gc, .slice (some ⟨g0, 0, none⟩) s.k co, pb, ab⟩ j (s.op j)) ∈ GObs n ⟨mb, gc, .slice (some ⟨g0, 0, none⟩) s.k co, pb, ab⟩ s := (gfront hj).mem_iff.2 (List.mem_of_getElem? (i := 3) rfl)
      have memA : oBox (ab j) (apC (s.op j)) ∈ GObs n ⟨mb, gc, .slice (some ⟨g0, 0, none⟩) s.k co, pb, ab⟩ s := (gfront hj).mem_iff.2 (List.mem_of_getElem? (i := 4) rfl)
      have apart0 := (List.pairwise_cons.1 hH.apart).1
      have nop0 := apart0 _ (List.mem_append_right _ memP) (pb j)
      have noa0 := apart0 _ (List.mem_append_right _ memA) (ab j)
      have nop : ¬ (Value.slice Ac j cc).ownBlock = some (pb j) := fun hf => nop0 hf rfl
      have noa : ¬ (Value.slice Ac j cc).ownBlock = some (ab j) := fun hf => noa0 hf rfl
      simp -dsimp only [Fa.F19, e8, hg0, rdP_of p1, p1, Int.toNat_natCast, Nat.zero_add, VC.Now, VC.vc, VC.lib, VC.regQ, VC.loopK, VC.reg, VC.opP, VC.pv, VC.thenF, VC.blkF, VC.retF, VC.resV, VC.oneV, VC.evo, VC.bin, VC.binI, VC.cmpI, VC.arithI, VC.ldv, VC.slv, VC.pickP, VC.holds, VC.chainOf, VC.look, VC.junk, VC.put, VC.eff, VC.callee, VC.pureB, VC.rdK, VC.rdKs, VC.okKs, VC.eqKs, VC.fillL, VC.putL, VC.stW, VC.stOK, VC.mixF, VC.setAll, Nat.reduceAdd, Nat.reduceSub, Nat.reduceMul, if_true, if_false, ↓reduceIte, forall_const, implies_true, reduceCtorEq, ne_eq, Nat.reduceBNe, Nat.reduceBEq, IntKind.signed, Nat.reduceEqDiff, Nat.reduceLeDiff, Nat.reduceLT, eq_self, Int.reduceEq, Int.reduceLT, Int.reduceLE, Int.reduceAdd, Int.reduceSub, VC.regC_nil, VC.regC_cons, VC.regCK_eq, VC.callQ, VC.tailQ, VC.goCall, VC.chStep]
      refine ⟨by omega, ?_⟩
      refine WP_held 11 (fun l => (Value.slice Ac j cc).ownBlock = some l) (.take 0 (.take 1 (.take 2 (.take 3 (.take 4 (.take 5 (.take 6 (.take 7 (.one 8 (.one 9 (.take 10 (.one 11 .done)))))))))))) Fa.mix (by kernel_rfl) rfl ?_
      simp -dsimp only [VC.heldF_done, VC.heldF_last, VC.planF_done, VC.planF_take, VC.planF_one, VC.planF_two, VC.planK_eq, VC.heldF_take, VC.heldF_one, VC.heldF_two, VC.heldF_twoL, VC.heldK_eq, VC.okRd, Fa.F19, rdSA_of y1, rdSN_of y1, rdSC_of y1, y1, rdP_of q0, q0, rdI_of o0, o0, rdI_of o1, o1, rdB_of o2, o2, rdI_of o3, o3, rdI_of o4, o4, rdI_of o5, o5, hpl, hal, VC.Now, VC.vc, VC.lib, VC.regQ, VC.loopK, VC.reg, VC.opP, VC.pv, VC.thenF, VC.blkF, VC.retF, VC.resV, VC.oneV, VC.evo, VC.bin, VC.binI, VC.cmpI, VC.arithI, VC.ldv, VC.slv, VC.pickP, VC.holds, VC.chainOf, VC.look, VC.junk, VC.put, VC.eff, VC.callee, VC.pureB, VC.rdK, VC.rdKs, VC.okKs, VC.eqKs, VC.fillL, VC.putL, VC.stW, VC.stOK, VC.mixF, VC.setAll, Nat.reduceAdd, Nat.reduceSub, Nat.reduceMul, if_true, if_false, ↓reduceIte, forall_const, implies_true, reduceCtorEq, ne_eq, Nat.reduceBNe, Nat.reduceBEq, IntKind.signed, Nat.reduceEqDiff, Nat.reduceLeDiff, Nat.reduceLT, eq_self, Int.reduceEq, Int.reduceLT, Int.reduceLE, Int.reduceAdd, Int.reduceSub, VC.regC_nil, VC.regC_cons, VC.regCK_eq, VC.callQ, VC.tailQ, VC.goCall, VC.chStep]
      have hHd := hH.drewN 1
      have ag0 : Agree (fun l => (Value.slice Ac j cc).ownBlock = some l) wx (wx.drewN 1) := Agree.of_below (below_drewN (Below.refl _ wx) 1)
      refine ⟨⟨hob, noc⟩, nop, noa, ag0.trans (Agree.of_below ((Below.refl _ _).alloc (Nat.le_refl _) _)), ?_⟩
      refine OPW_appK (v := .slice Ac j cc) rfl Fa.apI55 rfl rfl rfl (by simp [Value.oneCell']) (hHd.get 0 rfl) (Nat.zero_le _) (by omega) (by decide) fun v5 w5 ho5 hg5 hst5 => ?_
      have hmc2 : seqC (opsP s) j ++ [.int .i64 (s.op j).who, .int .i64 0, .bool (s.op j).wr, .int .i64 (s.op j).val, .int .i64 (s.op j).frm, .int .i64 (s.op j).to] = seqC (opsP s) (j + 1) := (seqC_succ (opsP s) j).symm
      rw [hmc2] at ho5
      obtain ⟨⟨r1, r2⟩, st6⟩ := hHd.growField 1 0 rfl rfl (by decide) ho5 hg5 hst5 1 (by show 1 < 2; omega)
      obtain ⟨A5, c5, rfl, _⟩ := id ho5
      have ag5 := ag0.trans (Agree.grown hg5 fun l hl => hl)
      simp -dsimp only [VC.heldF_done, VC.heldF_last, VC.planF_done, VC.planF_take, VC.planF_one, VC.planF_two, VC.planK_eq, VC.heldF_take, VC.heldF_one, VC.heldF_two, VC.heldF_twoL, VC.heldK_eq, VC.okRd, Fa.F19, rdSA_of y1, rdSN_of y1, rdSC_of y1, y1, VC.Now, VC.vc, VC.lib, VC.regQ, VC.loopK, VC.reg, VC.opP, VC.pv, VC.thenF, VC.blkF, VC.retF, VC.resV, VC.oneV, VC.evo, VC.bin, VC.binI, VC.cmpI, VC.arithI, VC.ldv, VC.slv, VC.pickP, VC.holds, VC.chainOf, VC.look, VC.junk, VC.put, VC.eff, VC.callee, VC.pureB, VC.rdK, VC.rdKs, VC.okKs, VC.eqKs, VC.fillL, VC.putL, VC.stW, VC.stOK, VC.mixF, VC.setAll, Nat.reduceAdd, Nat.reduceSub, Nat.reduceMul, if_true, if_false, ↓reduceIte, forall_const, implies_true, reduceCtorEq, ne_eq, Nat.reduceBNe, Nat.reduceBEq, IntKind.signed, Nat.reduceEqDiff, Nat.reduceLeDiff, Nat.reduceLT, eq_self, Int.reduceEq, Int.reduceLT, Int.reduceLE, Int.reduceAdd, Int.reduceSub, VC.regC_nil, VC.regC_cons, VC.regCK_eq, VC.callQ, VC.tailQ, VC.goCall, VC.chStep]
      have hBw : Below rb w (w5.setCell ⟨mb + 1, 1, none⟩ (.slice A5 (j + 1) c5)) := hBx.trans ((below_drewN (Below.refl rb wx) 1).trans (st6.below hHd))
      exact ⟨ag5, ⟨r1, r2⟩, fits_i64_nat (by omega), SAME.intro (by kernel_rfl), m - 1, by omega, j + 1, .slice A5 (j + 1) c5, by omega, rfl, hBw, st6.hp⟩
    · obtain rfl : j = s.k := by omega
      have e8 : ((s.k : Int) < s.k) = False := eq_false (by omega)
      obtain ⟨A0, c0, rfl, _⟩ := id (hH.get 2 rfl : OwnK wx 0 27 1 k vc codes)
      obtain ⟨A1, c1, rfl, _⟩ := id (hH.get 0 rfl : OwnK wx 0 145 6 s.k ve _)
      have obx : Box wx (mb + 1) [.slice A0 k c0, .slice A1 s.k c1] := hH.get 1 rfl
      have x0 := obx.at (i := 0) rfl
      have x1 := obx.at (i := 1) rfl
      obtain ⟨o5, st5⟩ := hH.allBox 3 rfl (vs := [.slice A0 k c0, .slice A1 s.k c1]) rfl (by intro v hv; simp at hv; rcases hv with rfl | rfl <;> rfl)
      have rb5 : Box _ rb [.slice A0 k c0, .slice A1 s.k c1] := st5.hp.get 3 rfl
      have t0 := rb5.at (i := 0) rfl
      have t1 := rb5.at (i := 1) rfl
      simp -dsimp only [Fa.F19, e8, rdSA_of x0, rdSN_of x0, rdSC_of x0, x0, rdSA_of x1, rdSN_of x1, rdSC_of x1, x1, rdSA_of t0, rdSN_of t0, rdSC_of t0, t0, rdSA_of t1, rdSN_of t1, rdSC_of t1, t1, VC.Now, VC.vc, VC.lib, VC.regQ, VC.loopK, VC.reg, VC.opP, VC.pv, VC.thenF, VC.blkF, VC.retF, VC.resV, VC.oneV, VC.evo, VC.bin, VC.binI, VC.cmpI, VC.arithI, VC.ldv, VC.slv, VC.pickP, VC.holds, VC.chainOf, VC.look, VC.junk, VC.put, VC.eff, VC.callee, VC.pureB, VC.rdK, VC.rdKs, VC.okKs, VC.eqKs, VC.fillL, VC.putL, VC.mixF, VC.setAll, Nat.reduceAdd, Nat.reduceSub, Nat.reduceMul, if_true, if_false, ↓reduceIte, forall_const, implies_true, reduceCtorEq, ne_eq, Nat.reduceBNe, Nat.reduceBEq, IntKind.signed, Nat.reduceEqDiff, Nat.reduceLeDiff, Nat.reduceLT, eq_self, Int.reduceEq, Int.reduceLT, Int.reduceLE, Int.reduceAdd, Int.reduceSub, VC.regC_nil, VC.regC_cons, VC.regCK_eq, VC.callQ, VC.tailQ, VC.goCall, VC.chStep]
      exact ⟨o5, _, rfl, ⟨A0, c0, A1, c1, rfl, (st5.hp.get 2 rfl : OwnK _ 0 27 1 k (.slice A0 k c0) codes).rd.2, RdOps.own (st5.hp.get 0 rfl : OwnK _ 0 145 6 s.k (.slice A1 s.k c1) (seqC (opsP s) s.k))⟩, by rw [hrb]; exact hBx.trans (st5.below hH)⟩
end
end Go.Proofs.Ytnggjekppdlaoaa
