/- A choice, the document's: the whole run. -/
import Derived.Test.YtelfmhiaafkimaaPaxD9
import Derived.Test.YtelfmhiaafkimaaPax6
namespace Go.Proofs.Ytelfmhiaafkimaa
open Go Go.RowKit Go.VC
set_option linter.unusedSimpArgs false
set_option linter.unusedVariables false
theorem RdC_agree {X : Nat → Prop} {w w' : World} {A : Option Addr} {us : List Value} (h : RdC w A us) (hA : Agree X w w') (hx : ∀ ad, A = some ad → ¬ X ad.block) : RdC w' A us := by
  intro h0
  obtain ⟨b, o, rfl, hlt, hc⟩ := h h0
  exact ⟨b, o, rfl, Nat.lt_of_lt_of_le hlt hA.size, fun j u hu => (hA.cell hlt (hx _ rfl)).trans (hc j u hu)⟩
section
variable {w : World}

set_option maxRecDepth 8000 in
set_option maxHeartbeats 8000000 in
theorem tried_any (A : Option Addr) (n len cap : Nat) (g : Nat → TryC) (hg : ∀ i, fits .i64 (g i).ballot) (w : World) (hr : RdT w A len 4 (fun i => tryL (g i))) (h1 : 1 ≤ n) (h5 : n ≤ 5) (hlen : len ≤ 120) :
    Calls Try.prog 18 #[.int .i64 n, .slice A len cap] w fun e w' => ∃ v, e = .returned v ∧ PaxQ n len ((List.range len).map (pcode n g)) (pst n g len).vt (pst n g len).fixd (pst n g len).chosen v w' ∧ Below w.heap.size w w' := by
  have hB0 : Below w.heap.size w (w.alloc (.cells #[nilS, nilS, nilS, nilS] 37)) := (Below.refl _ _).alloc (Nat.le_refl _) _
  have hH0 := (Hp.nil (B := w.heap.size) (Nat.le_refl _)).st_add (o := oBox w.heap.size [nilS, nilS, nilS, nilS]) hB0 (Box.new w _ _) (fun g hg => by cases hg; exact Nat.le_refl _)
  replace hH0 := hH0.hp
  refine calls_vc (rs := [.cell 4 37]) Fa.mix Try.func18 rfl Try.ntmps18 rfl (by kernel_rfl) (Nat.le_of_ble_eq_true rfl) ?_
  (repeat rw [vc_seq]); refine vc_plain _ fun Q hQ => ?_; simp -dsimp only [Fa.F18, VC.Now, VC.vc_skip, VC.vc_ret, VC.vc_exit, VC.vc_block, VC.vc_cond, VC.vc_region, VC.lib, VC.mapN_drewN, VC.mapB_drewN, VC.regQ, VC.loopK, VC.reg, VC.opP, VC.pv, VC.thenF, VC.blkF, VC.retF, VC.resV, VC.oneV, VC.evo, VC.bin, VC.binI, VC.cmpI, VC.arithI, VC.ldv, VC.slv, VC.pickP, VC.holds, VC.chainOf, VC.look, VC.junk, VC.put, VC.eff, VC.callee, VC.pureB, VC.rdK, VC.rdKs, VC.okKs, VC.eqKs, VC.fillL, VC.putL, VC.stW, VC.stOK, VC.mixF, VC.setAll, Nat.reduceAdd, Nat.reduceSub, Nat.reduceMul, if_true, if_false, ↓reduceIte, forall_const, implies_true, reduceCtorEq, ne_eq, Nat.reduceBNe, Nat.reduceBEq, IntKind.signed, Nat.reduceEqDiff, Nat.reduceLeDiff, Nat.reduceLT, eq_self, Int.reduceEq, Int.reduceLT, Int.reduceLE, Int.reduceAdd, Int.reduceSub, VC.regC_nil, VC.regC_cons, VC.regCK_eq, VC.callQ, VC.tailQ, VC.goCall, VC.chStep]
  change Q _ _ (w.alloc (.cells #[nilS, nilS, nilS, nilS] 37))
  have hz0 : (w.alloc (.cells #[nilS, nilS, nilS, nilS] 37)).heap.size = w.heap.size + 1 := by simp
  generalize w.alloc (.cells #[nilS, nilS, nilS, nilS] 37) = wa at hH0 hB0 hz0 ⊢
  generalize hrb : w.heap.size = rb at hH0 hB0 hz0 ⊢
  subst hQ
  simp -dsimp only [Fa.F18, VC.Now, VC.vc_skip, VC.vc_ret, VC.vc_exit, VC.vc_block, VC.vc_cond, VC.vc_region, VC.lib, VC.mapN_drewN, VC.mapB_drewN, VC.regQ, VC.loopK, VC.reg, VC.opP, VC.pv, VC.thenF, VC.blkF, VC.retF, VC.resV, VC.oneV, VC.evo, VC.bin, VC.binI, VC.cmpI, VC.arithI, VC.ldv, VC.slv, VC.pickP, VC.holds, VC.chainOf, VC.look, VC.junk, VC.put, VC.eff, VC.callee, VC.pureB, VC.rdK, VC.rdKs, VC.okKs, VC.eqKs, VC.fillL, VC.putL, VC.stW, VC.stOK, VC.mixF, VC.setAll, Nat.reduceAdd, Nat.reduceSub, Nat.reduceMul, if_true, if_false, ↓reduceIte, forall_const, implies_true, reduceCtorEq, ne_eq, Nat.reduceBNe, Nat.reduceBEq, IntKind.signed, Nat.reduceEqDiff, Nat.reduceLeDiff, Nat.reduceLT, eq_self, Int.reduceEq, Int.reduceLT, Int.reduceLE, Int.reduceAdd, Int.reduceSub, VC.regC_nil, VC.regC_cons, VC.regCK_eq, VC.callQ, VC.tailQ, VC.goCall, VC.chStep]
  (repeat rw [vc_seq]); refine vc_plain _ fun Q hQ => ?_; simp -dsimp only [Fa.F18, VC.Now, VC.vc_skip, VC.vc_ret, VC.vc_exit, VC.vc_block, VC.vc_cond, VC.vc_region, VC.lib, VC.mapN_drewN, VC.mapB_drewN, VC.regQ, VC.loopK, VC.reg, VC.opP, VC.pv, VC.thenF, VC.blkF, VC.retF, VC.resV, VC.oneV, VC.evo, VC.bin, VC.binI, VC.cmpI, VC.arithI, VC.ldv, VC.slv, VC.pickP, VC.holds, VC.chainOf, VC.look, VC.junk, VC.put, VC.eff, VC.callee, VC.pureB, VC.rdK, VC.rdKs, VC.okKs, VC.eqKs, VC.fillL, VC.putL, VC.stW, VC.stOK, VC.mixF, VC.setAll, Nat.reduceAdd, Nat.reduceSub, Nat.reduceMul, if_true, if_false, ↓reduceIte, forall_const, implies_true, reduceCtorEq, ne_eq, Nat.reduceBNe, Nat.reduceBEq, IntKind.signed, Nat.reduceEqDiff, Nat.reduceLeDiff, Nat.reduceLT, eq_self, Int.reduceEq, Int.reduceLT, Int.reduceLE, Int.reduceAdd, Int.reduceSub, VC.regC_nil, VC.regC_cons, VC.regCK_eq, VC.callQ, VC.tailQ, VC.goCall, VC.chStep]
  have hH1 := (hH0.st_add (o := oBox wa.heap.size (paxC n ⟨0, nilS, nilS, nilS, nilS⟩)) ((Below.refl _ _).alloc (Nat.le_refl _) (.cells _ _)) (Box.new wa _ 112) (fun g hg => by cases hg; exact Nat.le_refl _)).hp
  have hB1 : Below rb w (wa.alloc (.cells (paxC n ⟨0, nilS, nilS, nilS, nilS⟩).toArray 112)) := hB0.alloc (by omega) _
  change Q _ _ (wa.alloc (.cells (paxC n ⟨0, nilS, nilS, nilS, nilS⟩).toArray 112))
  generalize wa.alloc (.cells (paxC n ⟨0, nilS, nilS, nilS, nilS⟩).toArray 112) = wb at hH1 hB1 ⊢
  generalize wa.heap.size = pb at hH1 ⊢
  have hH2 := (hH1.st_add (o := oBox wb.heap.size [nilS, nilS, nilS, nilS]) ((Below.refl _ _).alloc (Nat.le_refl _) (.cells _ _)) (Box.new wb _ 37) (fun g hg => by cases hg; exact Nat.le_refl _)).hp
  have hB2 : Below rb w (wb.alloc (.cells #[nilS, nilS, nilS, nilS] 37)) := hB1.alloc (hH1.base) _
  change Hp _ _ (wb.alloc (.cells #[nilS, nilS, nilS, nilS] 37)) at hH2
  subst hQ
  simp -dsimp only [Fa.F18, VC.Now, VC.vc_skip, VC.vc_ret, VC.vc_exit, VC.vc_block, VC.vc_cond, VC.vc_region, VC.lib, VC.mapN_drewN, VC.mapB_drewN, VC.regQ, VC.loopK, VC.reg, VC.opP, VC.pv, VC.thenF, VC.blkF, VC.retF, VC.resV, VC.oneV, VC.evo, VC.bin, VC.binI, VC.cmpI, VC.arithI, VC.ldv, VC.slv, VC.pickP, VC.holds, VC.chainOf, VC.look, VC.junk, VC.put, VC.eff, VC.callee, VC.pureB, VC.rdK, VC.rdKs, VC.okKs, VC.eqKs, VC.fillL, VC.putL, VC.stW, VC.stOK, VC.mixF, VC.setAll, Nat.reduceAdd, Nat.reduceSub, Nat.reduceMul, if_true, if_false, ↓reduceIte, forall_const, implies_true, reduceCtorEq, ne_eq, Nat.reduceBNe, Nat.reduceBEq, IntKind.signed, Nat.reduceEqDiff, Nat.reduceLeDiff, Nat.reduceLT, eq_self, Int.reduceEq, Int.reduceLT, Int.reduceLE, Int.reduceAdd, Int.reduceSub, VC.regC_nil, VC.regC_cons, VC.regCK_eq, VC.callQ, VC.tailQ, VC.goCall, VC.chStep]
  (repeat rw [vc_seq]); refine vc_plain _ fun Q hQ => ?_; simp -dsimp only [Fa.F18, VC.Now, VC.vc_skip, VC.vc_ret, VC.vc_exit, VC.vc_block, VC.vc_cond, VC.vc_region, VC.lib, VC.mapN_drewN, VC.mapB_drewN, VC.regQ, VC.loopK, VC.reg, VC.opP, VC.pv, VC.thenF, VC.blkF, VC.retF, VC.resV, VC.oneV, VC.evo, VC.bin, VC.binI, VC.cmpI, VC.arithI, VC.ldv, VC.slv, VC.pickP, VC.holds, VC.chainOf, VC.look, VC.junk, VC.put, VC.eff, VC.callee, VC.pureB, VC.rdK, VC.rdKs, VC.okKs, VC.eqKs, VC.fillL, VC.putL, VC.stW, VC.stOK, VC.mixF, VC.setAll, Nat.reduceAdd, Nat.reduceSub, Nat.reduceMul, if_true, if_false, ↓reduceIte, forall_const, implies_true, reduceCtorEq, ne_eq, Nat.reduceBNe, Nat.reduceBEq, IntKind.signed, Nat.reduceEqDiff, Nat.reduceLeDiff, Nat.reduceLT, eq_self, Int.reduceEq, Int.reduceLT, Int.reduceLE, Int.reduceAdd, Int.reduceSub, VC.regC_nil, VC.regC_cons, VC.regCK_eq, VC.callQ, VC.tailQ, VC.goCall, VC.chStep]
  change Q _ _ (wb.alloc (.cells #[nilS, nilS, nilS, nilS] 37))
  generalize wb.alloc (.cells #[nilS, nilS, nilS, nilS] 37) = wc at hH2 hB2 ⊢
  generalize wb.heap.size = ob at hH2 ⊢
  have hN1 := (hH2.st_add (o := oOwn 24 1 0 nilS []) (Below.refl _ _) (OwnK.nil _ _ _ _) (fun g hg => by cases hg)).hp
  have hN2 := ((hN1.st_add (o := oOwn 117 2 0 nilS []) (Below.refl _ _) (OwnK.nil _ _ _ _) (fun g hg => by cases hg)).hp.st_add (o := oOwn 117 2 0 nilS []) (Below.refl _ _) (OwnK.nil _ _ _ _) (fun g hg => by cases hg)).hp
  have hN3 := ((hN2.st_add (o := oOwn 117 2 0 nilS []) (Below.refl _ _) (OwnK.nil _ _ _ _) (fun g hg => by cases hg)).hp.st_add (o := oOwn 258 4 0 nilS []) (Below.refl _ _) (OwnK.nil _ _ _ _) (fun g hg => by cases hg)).hp
  have hN4 := (hN3.st_add (o := oOwn 258 4 0 nilS []) (Below.refl _ _) (OwnK.nil _ _ _ _) (fun g hg => by cases hg)).hp
  have hH9 := hN4.pick [6, 5, 2, 8, 7, 3, 0, 1, 4] (by decide) ([oBox ob [nilS, nilS, nilS, nilS], oOwn 24 1 0 nilS [], oOwn 117 2 0 nilS [], oBox rb [nilS, nilS, nilS, nilS]] ++ PDObs n ⟨pb, nilS, nilS, nilS, nilS⟩ (begL ps0) [] [] ps0.fixd) rfl
  clear hN1 hN2 hN3 hN4 hH0 hH1 hH2 hB0 hB1 hz0
  subst hQ
  simp -dsimp only [Fa.F18, VC.Now, VC.vc, VC.lib, VC.mapN_drewN, VC.mapB_drewN, VC.regQ, VC.loopK, VC.reg, VC.opP, VC.pv, VC.thenF, VC.blkF, VC.retF, VC.resV, VC.oneV, VC.evo, VC.bin, VC.binI, VC.cmpI, VC.arithI, VC.ldv, VC.slv, VC.pickP, VC.holds, VC.chainOf, VC.look, VC.junk, VC.put, VC.eff, VC.callee, VC.pureB, VC.rdK, VC.rdKs, VC.okKs, VC.eqKs, VC.fillL, VC.putL, VC.stW, VC.stOK, VC.mixF, VC.setAll, Nat.reduceAdd, Nat.reduceSub, Nat.reduceMul, if_true, if_false, ↓reduceIte, forall_const, implies_true, reduceCtorEq, ne_eq, Nat.reduceBNe, Nat.reduceBEq, IntKind.signed, Nat.reduceEqDiff, Nat.reduceLeDiff, Nat.reduceLT, eq_self, Int.reduceEq, Int.reduceLT, Int.reduceLE, Int.reduceAdd, Int.reduceSub, VC.regC_nil, VC.regC_cons, VC.regCK_eq, VC.callQ, VC.tailQ, VC.goCall, VC.chStep]
  refine loop_slots Fa.mix [18] [8, 9, 10, 19, 20, 21, 22, 23, 24, 25, 26, 27, 28, 29, 30, 31, 32, 33, 34, 35, 36, 37, 38, 39] (fun m vs wx => ∃ (k : Nat) (a : PD) (vc vh : Value) (V T : List Vow), k + m = len ∧ vs = [.int .i64 k] ∧ a.mb = pb ∧ Below rb w wx ∧ PRel n k (pst n g k) V T ∧
      Hp rb ([oBox ob [vc, nilS, nilS, vh], oOwn 24 1 k vc (pcodes n g k), oOwn 117 2 (pst n g k).chosen.length vh ((pst n g k).chosen.flatMap bL), oBox rb [nilS, nilS, nilS, nilS]] ++ PDObs n a (begL (pst n g k)) V T (pst n g k).fixd) wx) len (by kernel_rfl) rfl
    ⟨0, ⟨pb, nilS, nilS, nilS, nilS⟩, nilS, nilS, [], [], by omega, rfl, rfl, hB2, prel0 n, hH9⟩ ?_
  clear hH9 hB2
  rintro m vs u2 wx ⟨k, a, vc, vh, V, T, hkm, rfl, hmb, hBx, hd, hH⟩
  subst hmb
  have hok := pok n g k
  by_cases hk : k < len
  · obtain ⟨b, o, rfl, hb, hc⟩ := (hr.below (by rw [hrb]; exact hBx)) (by omega)
    have s0 := hc k hk 0 _ rfl
    have s1 := hc k hk 1 _ rfl
    have s2 := hc k hk 2 _ rfl
    have s3 := hc k hk 3 _ rfl
    simp only [Nat.add_zero] at s0
    have e7 : ((k : Int) < len) = True := eq_true (by omega)
    have hms : pst n g (k + 1) = (pstep n (g k) (pst n g k)).2 := rfl
    have hmc := pcodes_succ n g k
    have hgk0 := hg k
    generalize pst n g k = s at *
    generalize hgk : g k = c at *
    simp -dsimp only [Fa.F18, e7, rdI_of s0, s0, rdI_of s1, s1, rdI_of s2, s2, rdI_of s3, s3, hb, Int.toNat_natCast, VC.Now, VC.vc, VC.lib, VC.mapN_drewN, VC.mapB_drewN, VC.regQ, VC.loopK, VC.reg, VC.opP, VC.pv, VC.thenF, VC.blkF, VC.retF, VC.resV, VC.oneV, VC.evo, VC.bin, VC.binI, VC.cmpI, VC.arithI, VC.ldv, VC.slv, VC.pickP, VC.holds, VC.chainOf, VC.look, VC.junk, VC.put, VC.eff, VC.callee, VC.pureB, VC.rdK, VC.rdKs, VC.okKs, VC.eqKs, VC.fillL, VC.putL, VC.stW, VC.stOK, VC.mixF, VC.setAll, Nat.reduceAdd, Nat.reduceSub, Nat.reduceMul, if_true, if_false, ↓reduceIte, forall_const, implies_true, reduceCtorEq, ne_eq, Nat.reduceBNe, Nat.reduceBEq, IntKind.signed, Nat.reduceEqDiff, Nat.reduceLeDiff, Nat.reduceLT, eq_self, Int.reduceEq, Int.reduceLT, Int.reduceLE, Int.reduceAdd, Int.reduceSub, VC.regC_nil, VC.regC_cons, VC.regCK_eq, VC.callQ, VC.tailQ, VC.goCall, VC.chStep]
    refine ⟨by omega, ?_⟩
    have hBs : Below wx.heap.size wx (wx.alloc (.cells (tryL c).toArray 107)) := (Below.refl _ _).alloc (Nat.le_refl _) _
    change CALL _ _ _ (wx.alloc (.cells (tryL c).toArray 107)) _
    generalize wx.alloc (.cells (tryL c).toArray 107) = wy at hBs ⊢
    have hHy := (hH.below hBs).perm (List.perm_append_comm)
    have hBy : Below rb w wy := hBx.trans (hBs.mono hH.base)
    clear hBs hH hBx
    generalize wx.heap.size = sb
    refine CALL_by (dpstep_any hHy.left hd hok (by omega) h5 c hgk0) fun e w4 hp => ?_
    obtain ⟨l, Al, cl, ⟨mb', vb', vv', vt', vf'⟩, V', T', he, hch, hrl, hnew, h2, st4, hd'⟩ := hp
    have h2 : mb' = a.mb := h2
    subst mb'
    refine ⟨_, he, ?_⟩
    have st5 := (st4.part hHy).perm List.perm_append_comm List.perm_append_comm
    have hB4 : Below rb w w4 := hBy.trans (st5.below (hHy.perm List.perm_append_comm))
    have hH4 := st5.hp
    have hHq := hHy.perm List.perm_append_comm
    have nvc : ∀ g, vc.ownBlock = some g → g < wy.heap.size := fun g hg => (hHq.lt 1 rfl hg).2
    have nob : ob < wy.heap.size := (hHq.lt 0 rfl rfl).2
    clear hHq
    clear st5 st4 hHy hBy he
    obtain ⟨Ac, cc, ec, _⟩ := id (hH4.get 1 rfl : OwnK w4 0 24 1 k vc _)
    obtain ⟨Ah, ch, eh, _⟩ := id (hH4.get 2 rfl : OwnK w4 0 117 2 s.chosen.length vh _)
    have bo : Box w4 ob [vc, nilS, nilS, vh] := hH4.get 0 rfl
    have y0 := bo.at (i := 0) rfl
    have hol := bo.1
    rw [ec] at y0
    rw [VC.Now, VC.seqK_eq]
    simp -dsimp only [Fa.F18, rdSA_of y0, rdSN_of y0, rdSC_of y0, y0, hol, VC.Now, VC.vc, VC.lib, VC.mapN_drewN, VC.mapB_drewN, VC.regQ, VC.loopK, VC.reg, VC.opP, VC.pv, VC.thenF, VC.blkF, VC.retF, VC.resV, VC.oneV, VC.evo, VC.bin, VC.binI, VC.cmpI, VC.arithI, VC.ldv, VC.slv, VC.pickP, VC.holds, VC.chainOf, VC.look, VC.junk, VC.put, VC.eff, VC.callee, VC.pureB, VC.rdK, VC.rdKs, VC.okKs, VC.eqKs, VC.fillL, VC.putL, VC.stW, VC.stOK, VC.mixF, VC.setAll, Nat.reduceAdd, Nat.reduceSub, Nat.reduceMul, if_true, if_false, ↓reduceIte, forall_const, implies_true, reduceCtorEq, ne_eq, Nat.reduceBNe, Nat.reduceBEq, IntKind.signed, Nat.reduceEqDiff, Nat.reduceLeDiff, Nat.reduceLT, eq_self, Int.reduceEq, Int.reduceLT, Int.reduceLE, Int.reduceAdd, Int.reduceSub, VC.regC_nil, VC.regC_cons, VC.regCK_eq, VC.callQ, VC.tailQ, VC.goCall, VC.chStep]
    refine OPW_appK (v := vc) rfl Fa.apI33 (by rw [ec]; rfl) rfl rfl (by simp [Value.oneCell']) (hH4.get 1 rfl) (Nat.zero_le _) (by omega) (by decide) fun v5 w5 ho5 hg5 hst5 => ?_
    rw [← hmc] at ho5
    obtain ⟨⟨r1, r2⟩, st6⟩ := hH4.growField 0 1 rfl rfl (by decide) ho5 hg5 hst5 0 (by show 0 < 4; omega)
    obtain ⟨A5, c5, rfl, _⟩ := id ho5
    have hw5 : ob < w5.heap.size := by simpa using (st6.hp.get 0 rfl : Box _ ob _).1
    have hrl5 : RdC (w5.setCell ⟨ob, 0, none⟩ (.slice A5 (k + 1) c5)) Al (l.flatMap bL) :=
      RdC_agree (X := fun j => vc.ownBlock = some j ∨ j = ob) hrl ((Agree.grown hg5 fun j hj => Or.inl hj).trans (Agree.setCell w5 _ (Or.inr rfl))) fun ad had hx => by
        have h9 := hnew ad had
        rcases hx with hx | hx
        · have := nvc _ hx; omega
        · omega
    rw [VC.Now, VC.seqK_eq]
    simp -dsimp only [Fa.F18, hw5, VC.Now, VC.vc_skip, VC.vc_ret, VC.vc_exit, VC.vc_block, VC.vc_cond, VC.vc_region, VC.lib, VC.mapN_drewN, VC.mapB_drewN, VC.regQ, VC.loopK, VC.reg, VC.opP, VC.pv, VC.thenF, VC.blkF, VC.retF, VC.resV, VC.oneV, VC.evo, VC.bin, VC.binI, VC.cmpI, VC.arithI, VC.ldv, VC.slv, VC.pickP, VC.holds, VC.chainOf, VC.look, VC.junk, VC.put, VC.eff, VC.callee, VC.pureB, VC.rdK, VC.rdKs, VC.okKs, VC.eqKs, VC.fillL, VC.putL, VC.stW, VC.stOK, VC.mixF, VC.setAll, Nat.reduceAdd, Nat.reduceSub, Nat.reduceMul, if_true, if_false, ↓reduceIte, forall_const, implies_true, reduceCtorEq, ne_eq, Nat.reduceBNe, Nat.reduceBEq, IntKind.signed, Nat.reduceEqDiff, Nat.reduceLeDiff, Nat.reduceLT, eq_self, Int.reduceEq, Int.reduceLT, Int.reduceLE, Int.reduceAdd, Int.reduceSub, VC.regC_nil, VC.regC_cons, VC.regCK_eq, VC.callQ, VC.tailQ, VC.goCall, VC.chStep]
    refine ⟨⟨r1, r2⟩, ?_⟩
    have hH6 : Hp rb ([oBox ob [.slice A5 (k + 1) c5, nilS, nilS, vh], oOwn 24 1 (k + 1) (.slice A5 (k + 1) c5) (pcodes n g (k + 1)), oOwn 117 2 s.chosen.length vh (s.chosen.flatMap bL), oBox rb [nilS, nilS, nilS, nilS]] ++ PDObs n ⟨a.mb, vb', vv', vt', vf'⟩ (begL (pstep n c s).2) V' T' (pstep n c s).2.fixd) _ := st6.hp
    have hB6 := hB4.trans (st6.below hH4)
    clear st6 r1 r2 ho5 hg5 hst5 hH4 bo y0 hrl hw5 hol ec
    generalize w5.setCell ⟨ob, 0, none⟩ (.slice A5 (k + 1) c5) = w6 at hH6 hB6 hrl5 ⊢
    have bo : Box w6 ob [.slice A5 (k + 1) c5, nilS, nilS, vh] := hH6.get 0 rfl
    have y3 := bo.at (i := 3) rfl
    have hol := bo.1
    rw [eh] at y3
    simp -dsimp only [Fa.F18, rdSA_of y3, rdSN_of y3, rdSC_of y3, y3, hol, VC.Now, VC.vc, VC.lib, VC.mapN_drewN, VC.mapB_drewN, VC.regQ, VC.loopK, VC.reg, VC.opP, VC.pv, VC.thenF, VC.blkF, VC.retF, VC.resV, VC.oneV, VC.evo, VC.bin, VC.binI, VC.cmpI, VC.arithI, VC.ldv, VC.slv, VC.pickP, VC.holds, VC.chainOf, VC.look, VC.junk, VC.put, VC.eff, VC.callee, VC.pureB, VC.rdK, VC.rdKs, VC.okKs, VC.eqKs, VC.fillL, VC.putL, VC.stW, VC.stOK, VC.mixF, VC.setAll, Nat.reduceAdd, Nat.reduceSub, Nat.reduceMul, if_true, if_false, ↓reduceIte, forall_const, implies_true, reduceCtorEq, ne_eq, Nat.reduceBNe, Nat.reduceBEq, IntKind.signed, Nat.reduceEqDiff, Nat.reduceLeDiff, Nat.reduceLT, eq_self, Int.reduceEq, Int.reduceLT, Int.reduceLE, Int.reduceAdd, Int.reduceSub, VC.regC_nil, VC.regC_cons, VC.regCK_eq, VC.callQ, VC.tailQ, VC.goCall, VC.chStep]
    have hcl0 : s.chosen.length ≤ k := hok.chosen
    have hcl1 : (s.chosen ++ l).length ≤ k + 1 := by rw [← hch]; exact (pok_step hok).chosen
    have hll : l.length ≤ 200 := by rw [List.length_append] at hcl1; omega
    refine OPW_appM (m := l.length) (us := l.flatMap bL) (v := vh) rfl Fa.apI35 (by rw [eh]; rfl) rfl (flat_length (f := bL) (K := 2) (fun _ => rfl) l) hrl5 ?_ (hH6.get 2 rfl) (Nat.zero_le _) (by omega) (by decide) fun v7 w7 ho7 hg7 hst7 => ?_
    · intro u hu
      obtain ⟨x, _, hx⟩ := List.mem_flatMap.1 hu
      simp at hx
      rcases hx with rfl | rfl <;> rfl
    rw [← List.flatMap_append, ← List.length_append, ← hch] at ho7
    obtain ⟨⟨r1, r2⟩, st8⟩ := hH6.growField 0 2 rfl rfl (by decide) ho7 hg7 hst7 3 (by show 3 < 4; omega)
    obtain ⟨A7, c7, rfl, _⟩ := id ho7
    have hw7 : ob < w7.heap.size := by simpa using (st8.hp.get 0 rfl : Box _ ob _).1
    have hB8 := hB6.trans (st8.below hH6)
    rw [VC.Now, VC.seqK_eq]
    simp -dsimp only [Fa.F18, hw7, VC.Now, VC.vc, VC.lib, VC.mapN_drewN, VC.mapB_drewN, VC.regQ, VC.loopK, VC.reg, VC.opP, VC.pv, VC.thenF, VC.blkF, VC.retF, VC.resV, VC.oneV, VC.evo, VC.bin, VC.binI, VC.cmpI, VC.arithI, VC.ldv, VC.slv, VC.pickP, VC.holds, VC.chainOf, VC.look, VC.junk, VC.put, VC.eff, VC.callee, VC.pureB, VC.rdK, VC.rdKs, VC.okKs, VC.eqKs, VC.fillL, VC.putL, VC.stW, VC.stOK, VC.mixF, VC.setAll, Nat.reduceAdd, Nat.reduceSub, Nat.reduceMul, if_true, if_false, ↓reduceIte, forall_const, implies_true, reduceCtorEq, ne_eq, Nat.reduceBNe, Nat.reduceBEq, IntKind.signed, Nat.reduceEqDiff, Nat.reduceLeDiff, Nat.reduceLT, eq_self, Int.reduceEq, Int.reduceLT, Int.reduceLE, Int.reduceAdd, Int.reduceSub, VC.regC_nil, VC.regC_cons, VC.regCK_eq, VC.callQ, VC.tailQ, VC.goCall, VC.chStep]
    refine ⟨⟨r1, r2⟩, fits_i64_nat (by omega), SAME.intro (by kernel_rfl), m - 1, by omega, k + 1, ⟨a.mb, vb', vv', vt', vf'⟩, .slice A5 (k + 1) c5, .slice A7 (pstep n c s).2.chosen.length c7, V', T', by omega, rfl, rfl, hB8, ?_, ?_⟩
    · rw [hms]; exact hd'
    · rw [hms]; exact st8.hp
  · obtain rfl : k = len := by omega
    have e7 : ((k : Int) < k) = False := eq_false (by omega)
    unfold PaxQ
    have hcl : ((List.range k).map (pcode n g)).length = k := by simp
    have hce : pcodes n g k = ((List.range k).map (pcode n g)).map (Value.int .i64) := by unfold pcodes; rw [List.map_map]; rfl
    rw [hce] at hH
    generalize (List.range k).map (pcode n g) = codes at *
    generalize pst n g k = s at *
    have hN := (hH.st_add (o := oOwn 120 3 0 nilS []) (Below.refl _ _) (OwnK.nil _ _ _ _) (fun g hg => by cases hg)).hp
    simp -dsimp only [Fa.F18, e7, VC.Now, VC.vc, VC.lib, VC.mapN_drewN, VC.mapB_drewN, VC.regQ, VC.loopK, VC.reg, VC.opP, VC.pv, VC.thenF, VC.blkF, VC.retF, VC.resV, VC.oneV, VC.evo, VC.bin, VC.binI, VC.cmpI, VC.arithI, VC.ldv, VC.slv, VC.pickP, VC.holds, VC.chainOf, VC.look, VC.junk, VC.put, VC.eff, VC.callee, VC.pureB, VC.rdK, VC.rdKs, VC.okKs, VC.eqKs, VC.fillL, VC.putL, VC.stW, VC.stOK, VC.mixF, VC.setAll, Nat.reduceAdd, Nat.reduceSub, Nat.reduceMul, if_true, if_false, ↓reduceIte, forall_const, implies_true, reduceCtorEq, ne_eq, Nat.reduceBNe, Nat.reduceBEq, IntKind.signed, Nat.reduceEqDiff, Nat.reduceLeDiff, Nat.reduceLT, eq_self, Int.reduceEq, Int.reduceLT, Int.reduceLE, Int.reduceAdd, Int.reduceSub, VC.regC_nil, VC.regC_cons, VC.regCK_eq, VC.callQ, VC.tailQ, VC.goCall, VC.chStep]
    refine loop_slots Fa.mix [11] [40, 41, 42, 43, 44, 45, 46, 47, 48, 49, 50, 51, 52, 53, 54, 55, 56] (fun m vs wx => ∃ (j : Nat) (vv : Value), j + m = n ∧ vs = [.int .i64 j] ∧ Below rb w wx ∧
      Hp rb (oOwn 120 3 j vv ((List.range j).flatMap fun i => vtrC (s.vt i)) :: ([oBox ob [vc, vv, nilS, vh], oOwn 24 1 k vc (codes.map (Value.int .i64)), oOwn 117 2 s.chosen.length vh (s.chosen.flatMap bL), oBox rb [nilS, nilS, nilS, nilS]] ++ PDObs n a (begL s) V T s.fixd)) wx) n (by kernel_rfl) rfl
      ⟨0, nilS, by omega, rfl, hBx, hN⟩ ?_
    clear hN hH hBx
    rintro m vs u3 wx ⟨j, vv, hjm, rfl, hBx, hH⟩
    have bo : Box wx ob [vc, vv, nilS, vh] := hH.get 1 rfl
    have hol := bo.1
    have bm : Box wx a.mb (paxC n a) := hH.get 5 rfl
    have hml := bm.1
    by_cases hj : j < n
    · have e8 : ((j : Int) < n) = True := eq_true (by omega)
      obtain ⟨Aq, cq, eq, _⟩ := id (hH.get 0 rfl : OwnK wx 0 120 3 j vv _)
      obtain ⟨Av, cv, ev, _⟩ := id (hH.get 7 rfl : OwnK wx 0 258 4 V.length a.vv _)
      obtain ⟨At, ct, et, _⟩ := id (hH.get 8 rfl : OwnK wx 0 258 4 T.length a.vt _)
      have y1 := bo.at (i := 1) rfl
      rw [eq] at y1
      have m2 := bm.at (i := 2) rfl
      have m3 := bm.at (i := 3) rfl
      rw [ev] at m2
      rw [et] at m3
      have hov := (hH.get 7 rfl : OwnK wx 0 258 4 V.length a.vv _)
      have hot := (hH.get 8 rfl : OwnK wx 0 258 4 T.length a.vt _)
      rw [ev] at hov
      rw [et] at hot
      have hlV := hd.lenV
      have hlT := hd.lenT
      have hprom := fun (wr : World) (hw : Below wx.heap.size wx wr) => promised_any ((hw.cell (p := ⟨a.mb, 2, none⟩) hml).trans m2) ((hw.cell (p := ⟨a.mb, 3, none⟩) hml).trans m3) (Nat.lt_of_lt_of_le hml hw.size) ((RdC.own hov).below hw) ((RdC.own hot).below hw) (by omega) (j : Int)
      have htak := fun (wr : World) (hw : Below wx.heap.size wx wr) => taken_any ((hw.cell (p := ⟨a.mb, 3, none⟩) hml).trans m3) (Nat.lt_of_lt_of_le hml hw.size) ((RdT.ownL hot (fun _ => rfl) vow0).below hw) (by omega) (j : Int)
      rw [hd.pro j] at hprom
      rw [hd.tak j] at htak
      have hd1 : Below wx.heap.size wx (wx.drewN 1) := below_drewN (Below.refl _ wx) 1
      have nob : ¬ vv.ownBlock = some ob := fun hf => hH.ne 0 1 (by decide) rfl rfl ob hf rfl
      have ag0 : Agree (fun j => vv.ownBlock = some j) wx (wx.drewN 1) := Agree.of_below hd1
      simp -dsimp only [Fa.F18, e8, VC.Now, VC.vc, VC.lib, VC.mapN_drewN, VC.mapB_drewN, VC.regQ, VC.loopK, VC.reg, VC.opP, VC.pv, VC.thenF, VC.blkF, VC.retF, VC.resV, VC.oneV, VC.evo, VC.bin, VC.binI, VC.cmpI, VC.arithI, VC.ldv, VC.slv, VC.pickP, VC.holds, VC.chainOf, VC.look, VC.junk, VC.put, VC.eff, VC.callee, VC.pureB, VC.rdK, VC.rdKs, VC.okKs, VC.eqKs, VC.fillL, VC.putL, VC.stW, VC.stOK, VC.mixF, VC.setAll, Nat.reduceAdd, Nat.reduceSub, Nat.reduceMul, if_true, if_false, ↓reduceIte, forall_const, implies_true, reduceCtorEq, ne_eq, Nat.reduceBNe, Nat.reduceBEq, IntKind.signed, Nat.reduceEqDiff, Nat.reduceLeDiff, Nat.reduceLT, eq_self, Int.reduceEq, Int.reduceLT, Int.reduceLE, Int.reduceAdd, Int.reduceSub, VC.regC_nil, VC.regC_cons, VC.regCK_eq, VC.callQ, VC.tailQ, VC.goCall, VC.chStep]
      refine WP_held 12 (fun j => vv.ownBlock = some j) (.take 0 (.take 1 (.take 2 (.take 3 (.take 5 (.take 6 (.one 4 (.one 7 (.take 8 (.one 9 (.one 10 (.one 11 (.one 12 .done))))))))))))) Fa.mix (by kernel_rfl) rfl ?_
      simp -dsimp only [VC.heldF_done, VC.heldF_last, VC.planF_done, VC.planF_take, VC.planF_one, VC.planF_two, VC.planK_eq, VC.heldF_take, VC.heldF_one, VC.heldF_two, VC.heldF_twoL, VC.heldK_eq, VC.okRd, Fa.F18, rdSA_of y1, rdSN_of y1, rdSC_of y1, y1, hol, VC.Now, VC.vc, VC.lib, VC.mapN_drewN, VC.mapB_drewN, VC.regQ, VC.loopK, VC.reg, VC.opP, VC.pv, VC.thenF, VC.blkF, VC.retF, VC.resV, VC.oneV, VC.evo, VC.bin, VC.binI, VC.cmpI, VC.arithI, VC.ldv, VC.slv, VC.pickP, VC.holds, VC.chainOf, VC.look, VC.junk, VC.put, VC.eff, VC.callee, VC.pureB, VC.rdK, VC.rdKs, VC.okKs, VC.eqKs, VC.fillL, VC.putL, VC.stW, VC.stOK, VC.mixF, VC.setAll, Nat.reduceAdd, Nat.reduceSub, Nat.reduceMul, if_true, if_false, ↓reduceIte, forall_const, implies_true, reduceCtorEq, ne_eq, Nat.reduceBNe, Nat.reduceBEq, IntKind.signed, Nat.reduceEqDiff, Nat.reduceLeDiff, Nat.reduceLT, eq_self, Int.reduceEq, Int.reduceLT, Int.reduceLE, Int.reduceAdd, Int.reduceSub, VC.regC_nil, VC.regC_cons, VC.regCK_eq, VC.callQ, VC.tailQ, VC.goCall, VC.chStep]
      (repeat refine ⟨by first | assumption | omega, ?_⟩)
      refine CALL_by (hprom _ hd1) fun e w2 hp => ⟨_, hp.1, ?_⟩
      have hB2 : Below wx.heap.size wx w2 := hd1.trans (hp.2.mono hd1.size)
      have ag2 : Agree (fun j => vv.ownBlock = some j) wx w2 := Agree.of_below hB2
      rw [VC.Now]
      simp -dsimp only [VC.heldF_done, VC.heldF_last, VC.planF_done, VC.planF_take, VC.planF_one, VC.planF_two, VC.planK_eq, VC.heldF_take, VC.heldF_one, VC.heldF_two, VC.heldF_twoL, VC.heldK_eq, VC.okRd, Fa.F18, rdSA_of y1, rdSN_of y1, rdSC_of y1, y1, hol, VC.Now, VC.vc, VC.lib, VC.mapN_drewN, VC.mapB_drewN, VC.regQ, VC.loopK, VC.reg, VC.opP, VC.pv, VC.thenF, VC.blkF, VC.retF, VC.resV, VC.oneV, VC.evo, VC.bin, VC.binI, VC.cmpI, VC.arithI, VC.ldv, VC.slv, VC.pickP, VC.holds, VC.chainOf, VC.look, VC.junk, VC.put, VC.eff, VC.callee, VC.pureB, VC.rdK, VC.rdKs, VC.okKs, VC.eqKs, VC.fillL, VC.putL, VC.stW, VC.stOK, VC.mixF, VC.setAll, Nat.reduceAdd, Nat.reduceSub, Nat.reduceMul, if_true, if_false, ↓reduceIte, forall_const, implies_true, reduceCtorEq, ne_eq, Nat.reduceBNe, Nat.reduceBEq, IntKind.signed, Nat.reduceEqDiff, Nat.reduceLeDiff, Nat.reduceLT, eq_self, Int.reduceEq, Int.reduceLT, Int.reduceLE, Int.reduceAdd, Int.reduceSub, VC.regC_nil, VC.regC_cons, VC.regCK_eq, VC.callQ, VC.tailQ, VC.goCall, VC.chStep]
      refine ⟨ag2, ?_⟩
      refine CALL_by (htak _ hB2) fun e w3 hp => ⟨_, hp.1, ?_⟩
      have hB3 : Below wx.heap.size wx w3 := hB2.trans (hp.2.mono hB2.size)
      have ag3 : Agree (fun j => vv.ownBlock = some j) wx w3 := Agree.of_below hB3
      rw [VC.Now]
      simp -dsimp only [VC.heldF_done, VC.heldF_last, VC.planF_done, VC.planF_take, VC.planF_one, VC.planF_two, VC.planK_eq, VC.heldF_take, VC.heldF_one, VC.heldF_two, VC.heldF_twoL, VC.heldK_eq, VC.okRd, Fa.F18, rdSA_of y1, rdSN_of y1, rdSC_of y1, y1, hol, VC.Now, VC.vc, VC.lib, VC.mapN_drewN, VC.mapB_drewN, VC.regQ, VC.loopK, VC.reg, VC.opP, VC.pv, VC.thenF, VC.blkF, VC.retF, VC.resV, VC.oneV, VC.evo, VC.bin, VC.binI, VC.cmpI, VC.arithI, VC.ldv, VC.slv, VC.pickP, VC.holds, VC.chainOf, VC.look, VC.junk, VC.put, VC.eff, VC.callee, VC.pureB, VC.rdK, VC.rdKs, VC.okKs, VC.eqKs, VC.fillL, VC.putL, VC.stW, VC.stOK, VC.mixF, VC.setAll, Nat.reduceAdd, Nat.reduceSub, Nat.reduceMul, if_true, if_false, ↓reduceIte, forall_const, implies_true, reduceCtorEq, ne_eq, Nat.reduceBNe, Nat.reduceBEq, IntKind.signed, Nat.reduceEqDiff, Nat.reduceLeDiff, Nat.reduceLT, eq_self, Int.reduceEq, Int.reduceLT, Int.reduceLE, Int.reduceAdd, Int.reduceSub, VC.regC_nil, VC.regC_cons, VC.regCK_eq, VC.callQ, VC.tailQ, VC.goCall, VC.chStep]
      refine ⟨ag3, ag3.trans (Agree.of_below ((Below.refl _ _).alloc (Nat.le_refl _) _)), ?_⟩
      have hH3 := hH.below hB3
      refine OPW_appK (v := vv) rfl Fa.apI34 (by rw [eq]; rfl) rfl rfl (by simp [Value.oneCell']) (hH3.get 0 rfl) (Nat.zero_le _) (by omega) (by decide) fun v5 w5 ho5 hg5 hst5 => ?_
      have hmc2 : (List.range j).flatMap (fun i => vtrC (s.vt i)) ++ [.int .i64 (s.vt j).p, .int .i64 (s.vt j).tk.n, .int .i64 (s.vt j).tk.v] = (List.range (j + 1)).flatMap fun i => vtrC (s.vt i) := by rw [List.range_succ, List.flatMap_append]; rfl
      rw [hmc2] at ho5
      obtain ⟨⟨r1, r2⟩, st6⟩ := hH3.growField 1 0 rfl rfl (by decide) ho5 hg5 hst5 1 (by show 1 < 4; omega)
      obtain ⟨A5, c5, rfl, _⟩ := id ho5
      have hw5 : ob < w5.heap.size := by simpa using (st6.hp.get 1 rfl : Box _ ob _).1
      have ag5 := ag3.trans (Agree.grown hg5 fun l hl => hl)
      simp -dsimp only [VC.heldF_done, VC.heldF_last, VC.planF_done, VC.planF_take, VC.planF_one, VC.planF_two, VC.planK_eq, VC.heldF_take, VC.heldF_one, VC.heldF_two, VC.heldF_twoL, VC.heldK_eq, VC.okRd, Fa.F18, rdSA_of y1, rdSN_of y1, rdSC_of y1, y1, hol, hw5, VC.Now, VC.vc, VC.lib, VC.mapN_drewN, VC.mapB_drewN, VC.regQ, VC.loopK, VC.reg, VC.opP, VC.pv, VC.thenF, VC.blkF, VC.retF, VC.resV, VC.oneV, VC.evo, VC.bin, VC.binI, VC.cmpI, VC.arithI, VC.ldv, VC.slv, VC.pickP, VC.holds, VC.chainOf, VC.look, VC.junk, VC.put, VC.eff, VC.callee, VC.pureB, VC.rdK, VC.rdKs, VC.okKs, VC.eqKs, VC.fillL, VC.putL, VC.stW, VC.stOK, VC.mixF, VC.setAll, Nat.reduceAdd, Nat.reduceSub, Nat.reduceMul, if_true, if_false, ↓reduceIte, forall_const, implies_true, reduceCtorEq, ne_eq, Nat.reduceBNe, Nat.reduceBEq, IntKind.signed, Nat.reduceEqDiff, Nat.reduceLeDiff, Nat.reduceLT, eq_self, Int.reduceEq, Int.reduceLT, Int.reduceLE, Int.reduceAdd, Int.reduceSub, VC.regC_nil, VC.regC_cons, VC.regCK_eq, VC.callQ, VC.tailQ, VC.goCall, VC.chStep]
      exact ⟨ag5, ag5, ⟨r1, r2⟩, fits_i64_nat (by omega), SAME.intro (by kernel_rfl), m - 1, by omega, j + 1, .slice A5 (j + 1) c5, by omega, rfl, (hBx.trans (hB3.mono hH.base)).trans (st6.below hH3), st6.hp⟩
    · obtain rfl : j = n := by omega
      have e8 : ((j : Int) < j) = False := eq_false (by omega)
      obtain ⟨A0, c0, e0, _⟩ := id (hH.get 2 rfl : OwnK wx 0 24 1 k vc _)
      obtain ⟨A1, c1, e1, _⟩ := id (hH.get 0 rfl : OwnK wx 0 120 3 j vv _)
      obtain ⟨A3, c3, e3, _⟩ := id (hH.get 3 rfl : OwnK wx 0 117 2 s.chosen.length vh _)
      obtain ⟨A2, c2, e2, _⟩ := id (hH.get 9 rfl : OwnK wx 0 117 2 s.fixd.length a.vf _)
      have m4 := bm.at (i := 4) rfl
      rw [e2] at m4
      have k2 : (wx.cell? ⟨ob, 2, none⟩).isSome = true := by rw [bo.at (i := 2) rfl]; rfl
      have f2 := bo.soft (i := 2) (by show 2 < 4; omega)
      have st1 := hH.setBox 1 rfl 2 (.slice A2 s.fixd.length c2)
      have hBw := hBx.trans (st1.below hH)
      have hHw := st1.hp
      obtain ⟨wy, hwy⟩ : ∃ wy, wy = wx.setCell ⟨ob, 2, none⟩ (.slice A2 s.fixd.length c2) := ⟨_, rfl⟩
      rw [← hwy] at hHw hBw
      have bw : Box wy ob [vc, vv, .slice A2 s.fixd.length c2, vh] := hHw.get 1 rfl
      have x0 := bw.at (i := 0) rfl
      have x1 := bw.at (i := 1) rfl
      have x2 := bw.at (i := 2) rfl
      have x3 := bw.at (i := 3) rfl
      rw [e0] at x0
      rw [e1] at x1
      rw [e3] at x3
      have hol2 := bw.1
      obtain ⟨ok, st2⟩ := hHw.allBox 4 rfl (vs := [.slice A0 k c0, .slice A1 j c1, .slice A2 s.fixd.length c2, .slice A3 s.chosen.length c3]) rfl (by intro v hv; simp at hv; rcases hv with rfl | rfl | rfl | rfl <;> rfl)
      have rb5 : Box _ rb [.slice A0 k c0, .slice A1 j c1, .slice A2 s.fixd.length c2, .slice A3 s.chosen.length c3] := st2.hp.get 4 rfl
      have t0 := rb5.at (i := 0) rfl
      have t1 := rb5.at (i := 1) rfl
      have t2 := rb5.at (i := 2) rfl
      have t3 := rb5.at (i := 3) rfl
      simp -dsimp only [Fa.F18, e8, stOK_one, stW_one, rdSA_of m4, rdSN_of m4, rdSC_of m4, m4, f2, k2, hml, hol, ← hwy, hol2, rdSA_of x0, rdSN_of x0, rdSC_of x0, x0, rdSA_of x1, rdSN_of x1, rdSC_of x1, x1, rdSA_of x2, rdSN_of x2, rdSC_of x2, x2, rdSA_of x3, rdSN_of x3, rdSC_of x3, x3, rdSA_of t0, rdSN_of t0, rdSC_of t0, t0, rdSA_of t1, rdSN_of t1, rdSC_of t1, t1, rdSA_of t2, rdSN_of t2, rdSC_of t2, t2, rdSA_of t3, rdSN_of t3, rdSC_of t3, t3, VC.Now, VC.vc, VC.lib, VC.mapN_drewN, VC.mapB_drewN, VC.regQ, VC.loopK, VC.reg, VC.opP, VC.pv, VC.thenF, VC.blkF, VC.retF, VC.resV, VC.oneV, VC.evo, VC.bin, VC.binI, VC.cmpI, VC.arithI, VC.ldv, VC.slv, VC.pickP, VC.holds, VC.chainOf, VC.look, VC.junk, VC.put, VC.eff, VC.callee, VC.pureB, VC.rdK, VC.rdKs, VC.okKs, VC.eqKs, VC.fillL, VC.putL, VC.mixF, VC.setAll, Nat.reduceAdd, Nat.reduceSub, Nat.reduceMul, if_true, if_false, ↓reduceIte, forall_const, implies_true, reduceCtorEq, ne_eq, Nat.reduceBNe, Nat.reduceBEq, IntKind.signed, Nat.reduceEqDiff, Nat.reduceLeDiff, Nat.reduceLT, eq_self, Int.reduceEq, Int.reduceLT, Int.reduceLE, Int.reduceAdd, Int.reduceSub, VC.regC_nil, VC.regC_cons, VC.regCK_eq, VC.callQ, VC.tailQ, VC.goCall, VC.chStep]
      have q0 := (st2.hp.get 2 rfl : OwnK _ 0 24 1 k vc _)
      have q1 := (st2.hp.get 0 rfl : OwnK _ 0 120 3 j vv _)
      have q2 := (st2.hp.get 9 rfl : OwnK _ 0 117 2 s.fixd.length a.vf _)
      have q3 := (st2.hp.get 3 rfl : OwnK _ 0 117 2 s.chosen.length vh _)
      rw [e0] at q0
      rw [e1] at q1
      rw [e2] at q2
      rw [e3] at q3
      have hlr : (List.range j).length = j := List.length_range
      have q1' := RdT.ownL (l := List.range j) (f := fun i => vtrC (s.vt i)) (K := 3) (by rw [hlr]; exact q1) (fun _ => rfl) 0
      rw [hlr] at q1'
      refine ⟨ok, _, rfl, ⟨A0, c0, A1, c1, A2, c2, A3, c3, rfl, hcl, q0.rd.2, q1'.congr (fun i hi => ?_), RdT.ownL q2 (fun _ => rfl) bal0, RdT.ownL q3 (fun _ => rfl) bal0⟩, by rw [hrb]; exact hBw.trans (st2.below hHw)⟩
      rw [List.getD_eq_getElem?_getD, List.getElem?_range hi]; rfl
end
end Go.Proofs.Ytelfmhiaafkimaa
