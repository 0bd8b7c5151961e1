/- Many copies as one, the document's: the whole run. -/
import Derived.Test.YtnggjekppdlaoaaRegD7
import Derived.Test.YtnggjekppdlaoaaRegRd
namespace Go.Proofs.Ytnggjekppdlaoaa
open Go Go.RowKit Go.VC
set_option linter.unusedSimpArgs false
set_option linter.unusedVariables false
theorem Hp.addNils {B : Nat} {L M : List Ob} {w : World} (h : Hp B L w) (hM : ∀ o ∈ M, o.is w ∧ o.blk = none) : Hp B (L ++ M) w :=
  ⟨fun o ho => (List.mem_append.1 ho).elim (h.1 o) fun ho => ⟨(hM o ho).1, fun g hg => by rw [(hM o ho).2] at hg; cases hg⟩,
    List.pairwise_append.2 ⟨h.2, List.pairwise_iff_getElem.2 fun i j hi hj _ g h1 => (by rw [(hM _ (List.getElem_mem hi)).2] at h1; cases h1), fun a ha b hb g _ h2 => by rw [(hM b hb).2] at h2; cases h2⟩, h.base⟩
section
variable {w : World}

set_option maxRecDepth 8000 in
set_option maxHeartbeats 8000000 in
theorem registerR_any (A : Option Addr) (n len cap : Nat) (g : Nat → Call) (w : World) (hr : RdCall w A len g) (h1 : 1 ≤ n) (h5 : n ≤ 5) (hlen : len ≤ 120) :
    Calls Try.prog 21 #[.int .i64 n, .slice A len cap] w fun e w' => ∃ v, e = .returned v ∧ RegV n g len v w' ∧ Below w.heap.size w w' := by
  have hB0 : Below w.heap.size w (w.alloc (.cells #[nilS, nilS] 57)) := (Below.refl _ _).alloc (Nat.le_refl _) _
  have hH0 := (Hp.nil (B := w.heap.size) (Nat.le_refl _)).st_add (o := oBox w.heap.size [nilS, nilS]) hB0 (Box.new w _ _) (fun g hg => by cases hg; exact Nat.le_refl _)
  replace hH0 := hH0.hp
  have hz0 : (w.alloc (.cells #[nilS, nilS] 57)).heap.size = w.heap.size + 1 := by simp
  refine calls_vc (rs := [.cell 4 57]) Fa.mix Try.func21 rfl Try.ntmps21 rfl (by kernel_rfl) (Nat.le_of_ble_eq_true rfl) ?_
  (repeat rw [vc_seq]); refine vc_plain _ fun Q hQ => ?_; simp -dsimp only [Fa.F21, VC.Now, VC.vc_skip, VC.vc_ret, VC.vc_exit, VC.vc_block, VC.vc_cond, VC.vc_region, VC.lib, VC.regQ, VC.loopK, VC.reg, VC.opP, VC.pv, VC.thenF, VC.blkF, VC.retF, VC.resV, VC.oneV, VC.evo, VC.bin, VC.binI, VC.cmpI, VC.arithI, VC.ldv, VC.slv, VC.pickP, VC.holds, VC.chainOf, VC.look, VC.junk, VC.put, VC.eff, VC.callee, VC.pureB, VC.rdK, VC.rdKs, VC.okKs, VC.eqKs, VC.fillL, VC.putL, VC.stW, VC.stOK, VC.mixF, VC.setAll, Nat.reduceAdd, Nat.reduceSub, Nat.reduceMul, if_true, if_false, ↓reduceIte, forall_const, implies_true, reduceCtorEq, ne_eq, Nat.reduceBNe, Nat.reduceBEq, IntKind.signed, Nat.reduceEqDiff, Nat.reduceLeDiff, Nat.reduceLT, eq_self, Int.reduceEq, Int.reduceLT, Int.reduceLE, Int.reduceAdd, Int.reduceSub, VC.regC_nil, VC.regC_cons, VC.regCK_eq, VC.callQ, VC.tailQ, VC.goCall, VC.chStep]
  change Q _ _ (w.alloc (.cells #[nilS, nilS] 57))
  generalize w.alloc (.cells #[nilS, nilS] 57) = wa at hH0 hB0 hz0 ⊢
  generalize hrb : w.heap.size = rb at hH0 hB0 hz0 ⊢
  subst hQ
  simp -dsimp only [Fa.F21, VC.Now, VC.vc, VC.lib, VC.regQ, VC.loopK, VC.reg, VC.opP, VC.pv, VC.thenF, VC.blkF, VC.retF, VC.resV, VC.oneV, VC.evo, VC.bin, VC.binI, VC.cmpI, VC.arithI, VC.ldv, VC.slv, VC.pickP, VC.holds, VC.chainOf, VC.look, VC.junk, VC.put, VC.eff, VC.callee, VC.pureB, VC.rdK, VC.rdKs, VC.okKs, VC.eqKs, VC.fillL, VC.putL, VC.mixF, VC.setAll, Nat.reduceAdd, Nat.reduceSub, Nat.reduceMul, if_true, if_false, ↓reduceIte, forall_const, implies_true, reduceCtorEq, ne_eq, Nat.reduceBNe, Nat.reduceBEq, IntKind.signed, Nat.reduceEqDiff, Nat.reduceLeDiff, Nat.reduceLT, eq_self, Int.reduceEq, Int.reduceLT, Int.reduceLE, Int.reduceAdd, Int.reduceSub, VC.regC_nil, VC.regC_cons, VC.regCK_eq, VC.callQ, VC.tailQ, VC.goCall, VC.chStep]
  refine OPW_makeK (n := n) (base := 0) rfl Fa.apI152 rfl rfl rfl rfl (by omega) (by omega) (Nat.zero_le _) fun w4 ho4 hg4 => ?_
  have hB4 : Below wa.heap.size wa w4 := (Below.refl _ _).grown hg4 (Nat.le_refl _) fun k hk => by cases hk
  have hl4 : wa.heap.size < w4.heap.size := (ho4.lt (g := wa.heap.size) rfl).2
  have hH1 := (hH0.st_add (o := oRecs wa.heap.size n 1 (fun _ => [nilS])) hB4 (Recs.of_own (cs := fun _ => [nilS]) ho4 hl4 (fun i hi j hj => made_at _ rfl hi hj)) (fun g hg => by cases hg; exact Nat.le_refl _)).hp
  have hBb := hB0.trans (hB4.mono (by omega))
  rw [VC.Now, VC.seqK_eq]
  generalize hgm : wa.heap.size = gs at hH1 ⊢
  simp -dsimp only [Fa.F21, VC.Now, VC.vc, VC.lib, VC.regQ, VC.loopK, VC.reg, VC.opP, VC.pv, VC.thenF, VC.blkF, VC.retF, VC.resV, VC.oneV, VC.evo, VC.bin, VC.binI, VC.cmpI, VC.arithI, VC.ldv, VC.slv, VC.pickP, VC.holds, VC.chainOf, VC.look, VC.junk, VC.put, VC.eff, VC.callee, VC.pureB, VC.rdK, VC.rdKs, VC.okKs, VC.eqKs, VC.fillL, VC.putL, VC.mixF, VC.setAll, Nat.reduceAdd, Nat.reduceSub, Nat.reduceMul, if_true, if_false, ↓reduceIte, forall_const, implies_true, reduceCtorEq, ne_eq, Nat.reduceBNe, Nat.reduceBEq, IntKind.signed, Nat.reduceEqDiff, Nat.reduceLeDiff, Nat.reduceLT, eq_self, Int.reduceEq, Int.reduceLT, Int.reduceLE, Int.reduceAdd, Int.reduceSub, VC.regC_nil, VC.regC_cons, VC.regCK_eq, VC.callQ, VC.tailQ, VC.goCall, VC.chStep]
  have hH2 := (hH1.st_add (o := oBox w4.heap.size (shelfC n ⟨w4.heap.size, gs, fun _ => nilS, nilS, nilS, fun _ => nilS⟩)) ((Below.refl _ _).alloc (Nat.le_refl _) (.cells _ _)) (Box.new w4 _ 155) (fun g hg => by cases hg; exact Nat.le_refl _)).hp
  have hB2 : Below w4.heap.size w4 (w4.alloc (.cells (shelfC n ⟨w4.heap.size, gs, fun _ => nilS, nilS, nilS, fun _ => nilS⟩).toArray 155)) := (Below.refl _ _).alloc (Nat.le_refl _) _
  have hz2 : (w4.alloc (.cells (shelfC n ⟨w4.heap.size, gs, fun _ => nilS, nilS, nilS, fun _ => nilS⟩).toArray 155)).heap.size = w4.heap.size + 1 := by simp
  change stOK ((w4.alloc (.cells (shelfC n ⟨w4.heap.size, gs, fun _ => nilS, nilS, nilS, fun _ => nilS⟩).toArray 155)).alloc (.cells #[nilS, nilS] 57)) _ _ _ ∧ WP _ _ _ _ _ _ (stW ((w4.alloc (.cells (shelfC n ⟨w4.heap.size, gs, fun _ => nilS, nilS, nilS, fun _ => nilS⟩).toArray 155)).alloc (.cells #[nilS, nilS] 57)) _ _ _)
  have hBc := hBb.trans (hB2.mono (by omega))
  generalize w4.alloc (.cells (shelfC n ⟨w4.heap.size, gs, fun _ => nilS, nilS, nilS, fun _ => nilS⟩).toArray 155) = w3 at hH2 hB2 hz2 hBc ⊢
  have hH4 := (hH2.st_add (o := oBox w3.heap.size [nilS, nilS]) ((Below.refl _ _).alloc (Nat.le_refl _) (.cells _ _)) (Box.new w3 _ 57) (fun g hg => by cases hg; exact Nat.le_refl _)).hp
  have hB5 : Below w3.heap.size w3 (w3.alloc (.cells #[nilS, nilS] 57)) := (Below.refl _ _).alloc (Nat.le_refl _) _
  change Hp _ _ (w3.alloc (.cells #[nilS, nilS] 57)) at hH4
  have hBd := hBc.trans (hB5.mono (by omega))
  generalize w3.alloc (.cells #[nilS, nilS] 57) = w5 at hH4 hBd ⊢
  rw [hz2] at hH4
  generalize w4.heap.size = mb at hH4 ⊢
  obtain ⟨o5, st5⟩ := hH4.allBox 0 rfl (vs := [nilS, nilS]) rfl (by intro v hv; simp at hv; rcases hv with rfl | rfl <;> rfl)
  have hBe := hBd.trans (st5.below hH4)
  have hH5 := st5.hp
  refine ⟨o5, ?_⟩
  generalize stW w5 ⟨mb + 1, 0, none⟩ 0 [nilS, nilS] = w6 at hH5 hBe ⊢
  have hH8 := (((hH5.st_add (o := oOwn 27 1 0 nilS []) (Below.refl _ _) (OwnK.nil _ _ _ _) (fun g hg => by cases hg)).hp.st_add (o := oOwn 145 6 0 nilS []) (Below.refl _ _) (OwnK.nil _ _ _ _) (fun g hg => by cases hg)).hp.st_add (o := oOwn 189 6 0 nilS []) (Below.refl _ _) (OwnK.nil _ _ _ _) (fun g hg => by cases hg)).hp
  have hH9 : Hp rb ([oBox (mb + 1) [nilS, nilS], oOwn 27 1 0 nilS [], oBox rb [nilS, nilS]] ++ DObs n ⟨mb, gs, fun _ => nilS, nilS, nilS, fun _ => nilS⟩ rs0 (fun _ => []) (fun _ => [])) w6 := by
    have h1 := hH8.pick [3, 2, 6, 4, 5, 1, 0] (by decide) ([oBox (mb + 1) [nilS, nilS], oOwn 27 1 0 nilS [], oBox rb [nilS, nilS]] ++ DHead n ⟨mb, gs, fun _ => nilS, nilS, nilS, fun _ => nilS⟩ rs0) rfl
    have h2 := Hp.addNils (M := (List.range n).map (stB ⟨mb, gs, fun _ => nilS, nilS, nilS, fun _ => nilS⟩ (fun _ => [])) ++ (List.range 0).map (snB ⟨mb, gs, fun _ => nilS, nilS, nilS, fun _ => nilS⟩ (fun _ => []))) h1 fun o ho => by
      simp only [List.range_zero, List.map_nil, List.append_nil, List.mem_map] at ho
      obtain ⟨i, _, rfl⟩ := ho
      exact ⟨(OwnK.nil _ _ _ _ : OwnK w6 0 _ 3 0 nilS []), rfl⟩
    exact h2
  clear hH0 hH1 hH2 hH4 hH5 hH8 hB0 hBb hBc hBd hB2 hB4 hB5 ho4 hg4 st5 o5 hz2 hl4
  refine loop_slots Fa.mix [16] [7, 8, 17, 18, 19, 20, 21, 22, 23, 24, 25, 26, 27, 28, 29, 30] (fun m vs wx => ∃ (k : Nat) (vc : Value) (a : DA) (st : Nat → List Sto) (sn : Nat → List Nat), k + m = len ∧ vs = [.int .i64 k] ∧ a.mb = mb ∧ Below rb w wx ∧ DRel k (rst n g k) st sn ∧
      Hp rb ([oBox (mb + 1) [vc, nilS], oOwn 27 1 k vc (rcodes n g k), oBox rb [nilS, nilS]] ++ DObs n a (rst n g k) st sn) wx) len (by kernel_rfl) rfl
    ⟨0, nilS, _, _, _, by omega, rfl, rfl, hBe, drel0, hH9⟩ ?_
  clear hH9 hBe
  rintro m vs u2 wx ⟨k, vc, a, st, sn, hkm, rfl, ham, hBx, hdr, hH⟩
  have hok := rok n g k
  by_cases hk : k < len
  · obtain ⟨b, o, rfl, hb, hc⟩ := (hr.below (by rw [hrb]; exact hBx)) (by omega)
    obtain ⟨s0, s1, s2, s3, s4, s5⟩ := hc k hk
    have e7 : ((k : Int) < len) = True := eq_true (by omega)
    have hms : rst n g (k + 1) = (rstep n (g k) k (rst n g k)).2 := rfl
    have hmc : rcodes n g (k + 1) = rcodes n g k ++ [.int .i64 (rstep n (g k) k (rst n g k)).1] := by
      unfold rcodes; rw [List.range_succ, List.map_append]; rfl
    generalize rst n g k = s at *
    generalize hgk : g k = c at *
    obtain ⟨Ac, cc, rfl, _⟩ := id (hH.get 1 rfl : OwnK wx 0 27 1 k vc _)
    simp -dsimp only [Fa.F21, e7, rdI_of s0, s0, rdI_of s1, s1, rdI_of s2, s2, rdI_of s3, s3, rdB_of s4, s4, rdI_of s5, s5, Int.toNat_natCast, VC.Now, VC.vc, VC.lib, VC.regQ, VC.loopK, VC.reg, VC.opP, VC.pv, VC.thenF, VC.blkF, VC.retF, VC.resV, VC.oneV, VC.evo, VC.bin, VC.binI, VC.cmpI, VC.arithI, VC.ldv, VC.slv, VC.pickP, VC.holds, VC.chainOf, VC.look, VC.junk, VC.put, VC.eff, VC.callee, VC.pureB, VC.rdK, VC.rdKs, VC.okKs, VC.eqKs, VC.fillL, VC.putL, VC.stW, VC.stOK, VC.mixF, VC.setAll, Nat.reduceAdd, Nat.reduceSub, Nat.reduceMul, if_true, if_false, ↓reduceIte, forall_const, implies_true, reduceCtorEq, ne_eq, Nat.reduceBNe, Nat.reduceBEq, IntKind.signed, Nat.reduceEqDiff, Nat.reduceLeDiff, Nat.reduceLT, eq_self, Int.reduceEq, Int.reduceLT, Int.reduceLE, Int.reduceAdd, Int.reduceSub, VC.regC_nil, VC.regC_cons, VC.regCK_eq, VC.callQ, VC.tailQ, VC.goCall, VC.chStep]
    refine ⟨by omega, ?_⟩
    have hsay : Box (wx.alloc (.cells (callL c).toArray 142)) wx.heap.size (callL c) := Box.new wx _ _
    have hBs : Below wx.heap.size wx (wx.alloc (.cells (callL c).toArray 142)) := (Below.refl _ _).alloc (Nat.le_refl _) _
    change WP _ _ _ _ _ _ (wx.alloc (.cells (callL c).toArray 142))
    generalize wx.alloc (.cells (callL c).toArray 142) = wy at hsay hBs ⊢
    have hHy := (hH.below hBs).perm (List.perm_append_comm)
    have hBy : Below rb w wy := hBx.trans (hBs.mono hH.base)
    have nsay : ¬ foot (DObs n a s st sn) wx.heap.size := fun hf => by have := ((hH.perm (List.perm_append_comm)).left.foot_lt hf).2; omega
    have nsc : (Value.slice Ac k cc).ownBlock ≠ some wx.heap.size := fun hf => by have := (hH.lt 1 rfl hf).2; omega
    generalize wx.heap.size = sb at hsay hBs nsay nsc ⊢
    have hby := hsay.1
    have z0 := hsay.at (i := 0) rfl
    have z1 := hsay.at (i := 1) rfl
    have z2 := hsay.at (i := 2) rfl
    have z3 := hsay.at (i := 3) rfl
    have z4 := hsay.at (i := 4) rfl
    have z5 := hsay.at (i := 5) rfl
    have hHz := hHy.perm (List.perm_append_comm)
    have y1 := (hHz.get 0 rfl : Box wy (mb + 1) _).at (i := 0) rfl
    have hob := (hHz.get 0 rfl : Box wy (mb + 1) _).1
    have nob := hHy.not_foot (L := DObs n a s st sn) 0 rfl (j := mb + 1) rfl
    have noc : (Value.slice Ac k cc).ownBlock ≠ some (mb + 1) := fun hf => hHz.ne 0 1 (by decide) rfl rfl (mb + 1) rfl hf
    refine WP_held 9 (fun j => foot (DObs n a s st sn) j ∨ (Value.slice Ac k cc).ownBlock = some j) (.take 0 (.take 1 (.take 2 (.take 3 (.take 4 (.one 5 (.one 6 (.one 7 (.take 8 (.one 9 .done)))))))))) Fa.mix (by kernel_rfl) rfl ?_
    simp -dsimp only [VC.heldF_done, VC.heldF_last, VC.planF_done, VC.planF_take, VC.planF_one, VC.planF_two, VC.planK_eq, VC.heldF_take, VC.heldF_one, VC.heldF_two, VC.heldF_twoL, VC.heldK_eq, VC.okRd, Fa.F21, rdI_of z0, z0, rdI_of z1, z1, rdI_of z2, z2, rdI_of z3, z3, rdB_of z4, z4, rdI_of z5, z5, rdSA_of y1, rdSN_of y1, rdSC_of y1, y1, VC.Now, VC.vc, VC.lib, VC.regQ, VC.loopK, VC.reg, VC.opP, VC.pv, VC.thenF, VC.blkF, VC.retF, VC.resV, VC.oneV, VC.evo, VC.bin, VC.binI, VC.cmpI, VC.arithI, VC.ldv, VC.slv, VC.pickP, VC.holds, VC.chainOf, VC.look, VC.junk, VC.put, VC.eff, VC.callee, VC.pureB, VC.rdK, VC.rdKs, VC.okKs, VC.eqKs, VC.fillL, VC.putL, VC.stW, VC.stOK, VC.mixF, VC.setAll, Nat.reduceAdd, Nat.reduceSub, Nat.reduceMul, if_true, if_false, ↓reduceIte, forall_const, implies_true, reduceCtorEq, ne_eq, Nat.reduceBNe, Nat.reduceBEq, IntKind.signed, Nat.reduceEqDiff, Nat.reduceLeDiff, Nat.reduceLT, eq_self, Int.reduceEq, Int.reduceLT, Int.reduceLE, Int.reduceAdd, Int.reduceSub, VC.regC_nil, VC.regC_cons, VC.regCK_eq, VC.callQ, VC.tailQ, VC.goCall, VC.chStep]
    have hHd := hHy.drewN 1
    have ag0 : Agree (fun j => foot (DObs n a s st sn) j ∨ (Value.slice Ac k cc).ownBlock = some j) wy (wy.drewN 1) := Agree.of_below (below_drewN (Below.refl _ wy) 1)
    refine ⟨⟨hob, fun h => h.elim nob noc⟩, ⟨hby, fun h => h.elim nsay nsc⟩, ?_⟩
    have hcall := dstep_any (n := n) (t := k) (a := a) (s := s) hHd.left hdr hok h5 (by omega) c
    rw [ham] at hcall
    refine CALL_by hcall fun e w4 hp => ⟨_, hp.1, ?_⟩
    obtain ⟨_, a', st', sn', h2, st4, hdr'⟩ := hp
    have st5 := (st4.part hHd).perm List.perm_append_comm List.perm_append_comm
    have ag4 := ag0.trans (st4.agree.mono fun j _ hj => Or.inl hj)
    have hH4 := st5.hp
    simp -dsimp only [VC.heldF_done, VC.heldF_last, VC.planF_done, VC.planF_take, VC.planF_one, VC.planF_two, VC.planK_eq, VC.heldF_take, VC.heldF_one, VC.heldF_two, VC.heldF_twoL, VC.heldK_eq, VC.okRd, Fa.F21, rdI_of z0, z0, rdI_of z1, z1, rdI_of z2, z2, rdI_of z3, z3, rdB_of z4, z4, rdI_of z5, z5, rdSA_of y1, rdSN_of y1, rdSC_of y1, y1, VC.Now, VC.vc, VC.lib, VC.regQ, VC.loopK, VC.reg, VC.opP, VC.pv, VC.thenF, VC.blkF, VC.retF, VC.resV, VC.oneV, VC.evo, VC.bin, VC.binI, VC.cmpI, VC.arithI, VC.ldv, VC.slv, VC.pickP, VC.holds, VC.chainOf, VC.look, VC.junk, VC.put, VC.eff, VC.callee, VC.pureB, VC.rdK, VC.rdKs, VC.okKs, VC.eqKs, VC.fillL, VC.putL, VC.stW, VC.stOK, VC.mixF, VC.setAll, Nat.reduceAdd, Nat.reduceSub, Nat.reduceMul, if_true, if_false, ↓reduceIte, forall_const, implies_true, reduceCtorEq, ne_eq, Nat.reduceBNe, Nat.reduceBEq, IntKind.signed, Nat.reduceEqDiff, Nat.reduceLeDiff, Nat.reduceLT, eq_self, Int.reduceEq, Int.reduceLT, Int.reduceLE, Int.reduceAdd, Int.reduceSub, VC.regC_nil, VC.regC_cons, VC.regCK_eq, VC.callQ, VC.tailQ, VC.goCall, VC.chStep]
    refine ⟨ag4, ag4.trans (Agree.of_below ((Below.refl _ _).alloc (Nat.le_refl _) _)), ?_⟩
    refine OPW_appK (v := .slice Ac k cc) rfl Fa.apI23 rfl rfl rfl (by simp [Value.oneCell']) (hH4.get 1 rfl) (Nat.zero_le _) (by omega) (by decide) fun v5 w5 ho5 hg5 hst5 => ?_
    rw [← hmc] at ho5
    obtain ⟨⟨r1, r2⟩, st6⟩ := hH4.growField 0 1 rfl rfl (by decide) ho5 hg5 hst5 0 (by show 0 < 2; omega)
    obtain ⟨A5, c5, rfl, _⟩ := id ho5
    simp -dsimp only [VC.heldF_done, VC.heldF_last, VC.planF_done, VC.planF_take, VC.planF_one, VC.planF_two, VC.planK_eq, VC.heldF_take, VC.heldF_one, VC.heldF_two, VC.heldF_twoL, VC.heldK_eq, VC.okRd, Fa.F21, rdI_of z0, z0, rdI_of z1, z1, rdI_of z2, z2, rdI_of z3, z3, rdB_of z4, z4, rdI_of z5, z5, rdSA_of y1, rdSN_of y1, rdSC_of y1, y1, VC.Now, VC.vc, VC.lib, VC.regQ, VC.loopK, VC.reg, VC.opP, VC.pv, VC.thenF, VC.blkF, VC.retF, VC.resV, VC.oneV, VC.evo, VC.bin, VC.binI, VC.cmpI, VC.arithI, VC.ldv, VC.slv, VC.pickP, VC.holds, VC.chainOf, VC.look, VC.junk, VC.put, VC.eff, VC.callee, VC.pureB, VC.rdK, VC.rdKs, VC.okKs, VC.eqKs, VC.fillL, VC.putL, VC.stW, VC.stOK, VC.mixF, VC.setAll, Nat.reduceAdd, Nat.reduceSub, Nat.reduceMul, if_true, if_false, ↓reduceIte, forall_const, implies_true, reduceCtorEq, ne_eq, Nat.reduceBNe, Nat.reduceBEq, IntKind.signed, Nat.reduceEqDiff, Nat.reduceLeDiff, Nat.reduceLT, eq_self, Int.reduceEq, Int.reduceLT, Int.reduceLE, Int.reduceAdd, Int.reduceSub, VC.regC_nil, VC.regC_cons, VC.regCK_eq, VC.callQ, VC.tailQ, VC.goCall, VC.chStep]
    have hBw : Below rb w (w5.setCell ⟨mb + 1, 0, none⟩ (.slice A5 (k + 1) c5)) := hBy.trans ((below_drewN (Below.refl rb wy) 1).trans ((st5.trans st6).below (hHd.perm List.perm_append_comm)))
    refine ⟨ag4.trans (Agree.grown hg5 fun j hj => Or.inr hj), ⟨r1, r2⟩, fits_i64_nat (by omega), SAME.intro (by kernel_rfl), m - 1, by omega, k + 1, .slice A5 (k + 1) c5, a', st', sn', by omega, rfl, h2.trans ham, hBw, ?_, ?_⟩
    · rw [hms]; exact hdr'
    · rw [hms]
      exact st6.hp
  · obtain rfl : k = len := by omega
    have e7 : ((k : Int) < k) = False := eq_false (by omega)
    unfold RegV
    generalize rst n g k = s at *
    generalize hcs : rcodes n g k = codes at *
    obtain ⟨mb', gs', sv, vo, vu, uv⟩ := a
    have ham : mb' = mb := ham
    subst mb'
    have hbx : Box wx mb (shelfC n ⟨mb, gs', sv, vo, vu, uv⟩) := hH.get 3 rfl
    have b1 := hbx.at (i := 1) rfl
    have hbl := hbx.1
    obtain ⟨Ao, co, eo, _⟩ := id (hH.get 5 rfl : OwnK wx 0 145 6 s.k vo (seqC (opsP s) s.k))
    subst eo
    obtain ⟨A0, c0, rfl, _⟩ := id (hH.get 1 rfl : OwnK wx 0 27 1 k vc codes)
    have ob0 : Box wx (mb + 1) [.slice A0 k c0, nilS] := hH.get 0 rfl
    have k1 : (wx.cell? ⟨mb + 1, 1, none⟩).isSome = true := by rw [ob0.at (i := 1) rfl]; rfl
    have f1 := ob0.soft (i := 1) (by show 1 < 2; omega)
    have st1 := hH.setBox 0 rfl 1 (.slice Ao s.k co)
    have obx : Box (wx.setCell ⟨mb + 1, 1, none⟩ (.slice Ao s.k co)) (mb + 1) [.slice A0 k c0, .slice Ao s.k co] := st1.hp.get 0 rfl
    have x0 := obx.at (i := 0) rfl
    have x1 := obx.at (i := 1) rfl
    obtain ⟨o5, st5⟩ := st1.hp.allBox 2 rfl (vs := [.slice A0 k c0, .slice Ao s.k co]) rfl (by intro v hv; simp at hv; rcases hv with rfl | rfl <;> rfl)
    have rb5 : Box _ rb [.slice A0 k c0, .slice Ao s.k co] := st5.hp.get 2 rfl
    have t0 := rb5.at (i := 0) rfl
    have t1 := rb5.at (i := 1) rfl
    simp -dsimp only [Fa.F21, e7, stOK_one, stW_one, k1, f1, hbl, rdSA_of b1, rdSN_of b1, rdSC_of b1, b1, rdSA_of x0, rdSN_of x0, rdSC_of x0, x0, rdSA_of x1, rdSN_of x1, rdSC_of x1, x1, rdSA_of t0, rdSN_of t0, rdSC_of t0, t0, rdSA_of t1, rdSN_of t1, rdSC_of t1, t1, VC.Now, VC.vc, VC.lib, VC.regQ, VC.loopK, VC.reg, VC.opP, VC.pv, VC.thenF, VC.blkF, VC.retF, VC.resV, VC.oneV, VC.evo, VC.bin, VC.binI, VC.cmpI, VC.arithI, VC.ldv, VC.slv, VC.pickP, VC.holds, VC.chainOf, VC.look, VC.junk, VC.put, VC.eff, VC.callee, VC.pureB, VC.rdK, VC.rdKs, VC.okKs, VC.eqKs, VC.fillL, VC.putL, VC.mixF, VC.setAll, Nat.reduceAdd, Nat.reduceSub, Nat.reduceMul, if_true, if_false, ↓reduceIte, forall_const, implies_true, reduceCtorEq, ne_eq, Nat.reduceBNe, Nat.reduceBEq, IntKind.signed, Nat.reduceEqDiff, Nat.reduceLeDiff, Nat.reduceLT, eq_self, Int.reduceEq, Int.reduceLT, Int.reduceLE, Int.reduceAdd, Int.reduceSub, VC.regC_nil, VC.regC_cons, VC.regCK_eq, VC.callQ, VC.tailQ, VC.goCall, VC.chStep]
    exact ⟨o5, _, rfl, ⟨A0, c0, Ao, co, rfl, (st5.hp.get 1 rfl : OwnK _ 0 27 1 k (.slice A0 k c0) codes).rd.2, RdOps.own (st5.hp.get 5 rfl : OwnK _ 0 145 6 s.k (.slice Ao s.k co) (seqC (opsP s) s.k))⟩, by rw [hrb]; exact hBx.trans ((st1.trans st5).below hH)⟩
end
end Go.Proofs.Ytnggjekppdlaoaa
