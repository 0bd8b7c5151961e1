/- A choice: the program's whole run. -/
import Derived.Test.YtelfmhiaafkimaaPax5
import Derived.Test.YtelfmhiaafkimaaTbl
namespace Go.Proofs.Ytelfmhiaafkimaa
open Go Go.RowKit Go.VC
set_option linter.unusedSimpArgs false
set_option linter.unusedVariables false
noncomputable abbrev pcodes (n : Nat) (f : Nat → TryC) (k : Nat) : List Value := (List.range k).map fun i => Value.int .i64 (pcode n f i)
theorem pcodes_succ (n : Nat) (f : Nat → TryC) (k : Nat) : pcodes n f (k + 1) = pcodes n f k ++ [.int .i64 (pstep n (f k) (pst n f k)).1] := by
  unfold pcodes; rw [List.range_succ, List.map_append]; rfl
/-- What a script comes to: codes, voters, what is fixed, and chosen. -/
def PaxQ (n k : Nat) (codes : List Int) (vt : Nat → Vtr) (fx ch : List Bal) (v : Value) (w : World) : Prop :=
  ∃ A0 c0 A1 c1 A2 c2 A3 c3, v = .agg #[.slice A0 k c0, .slice A1 n c1, .slice A2 fx.length c2, .slice A3 ch.length c3] ∧ codes.length = k ∧ Rd w A0 (codes.map (Value.int .i64)) ∧ RdT w A1 n 3 (fun i => vtrC (vt i)) ∧
    RdT w A2 fx.length 2 (fun i => bL (fx.getD i bal0)) ∧ RdT w A3 ch.length 2 (fun i => bL (ch.getD i bal0))
theorem PaxQ.below {n k : Nat} {codes : List Int} {vt : Nat → Vtr} {fx ch : List Bal} {v : Value} {w w' : World} (h : PaxQ n k codes vt fx ch v w) (hB : Below w.heap.size w w') : PaxQ n k codes vt fx ch v w' := by
  obtain ⟨A0, c0, A1, c1, A2, c2, A3, c3, h0, h1, h2, h3, h4, h5⟩ := h
  exact ⟨A0, c0, A1, c1, A2, c2, A3, c3, h0, h1, h2.below hB, h3.below hB, h4.below hB, h5.below hB⟩
section
variable {w : World}

set_option maxRecDepth 8000 in
set_option maxHeartbeats 8000000 in
theorem pplay_any (A : Option Addr) (n len cap : Nat) (g : Nat → TryC) (hg : ∀ i, fits .i64 (g i).ballot) (w : World) (hr : RdT w A len 4 (fun i => tryL (g i))) (h1 : 1 ≤ n) (h5 : n ≤ 5) (hlen : len ≤ 120) :
    Calls Try.prog 16 #[.int .i64 n, .slice A len cap] w fun e w' => ∃ v, e = .returned (.tuple #[v, .int .i64 0]) ∧ PaxQ n len ((List.range len).map (pcode n g)) (pst n g len).vt (pst n g len).fixd (pst n g len).chosen v w' ∧ Below w.heap.size w w' := by
  have e1 : ((n : Int) < 1) = False := eq_false (by omega)
  have e2 : ((5 : Int) < n) = False := eq_false (by omega)
  have e3 : ((120 : Int) < len) = False := eq_false (by omega)
  have hB0 : Below w.heap.size w (w.alloc (.cells #[nilS, nilS, nilS, nilS] 37)) := (Below.refl _ _).alloc (Nat.le_refl _) _
  have hH0 := (Hp.nil (B := w.heap.size) (Nat.le_refl _)).st_add (o := oBox w.heap.size [nilS, nilS, nilS, nilS]) hB0 (Box.new w _ _) (fun g hg => by cases hg; exact Nat.le_refl _)
  replace hH0 := hH0.hp
  have hz0 : (w.alloc (.cells #[nilS, nilS, nilS, nilS] 37)).heap.size = w.heap.size + 1 := by simp
  refine calls_vc (rs := [.cell 4 37, .tmp 5]) Fa.mix Try.func16 rfl Try.ntmps16 rfl (by kernel_rfl) (Nat.le_of_ble_eq_true rfl) ?_
  (repeat rw [vc_seq]); refine vc_plain _ fun Q hQ => ?_; simp -dsimp only [Fa.F16, e1, e2, e3, VC.Now, VC.vc_skip, VC.vc_ret, VC.vc_exit, VC.vc_block, VC.vc_cond, VC.vc_region, VC.lib, VC.mapN_drewN, VC.mapB_drewN, VC.regQ, VC.loopK, VC.reg, VC.opP, VC.pv, VC.thenF, VC.blkF, VC.retF, VC.resV, VC.oneV, VC.evo, VC.bin, VC.binI, VC.cmpI, VC.arithI, VC.ldv, VC.slv, VC.pickP, VC.holds, VC.chainOf, VC.look, VC.junk, VC.put, VC.eff, VC.callee, VC.pureB, VC.rdK, VC.rdKs, VC.okKs, VC.eqKs, VC.fillL, VC.putL, VC.stW, VC.stOK, VC.mixF, VC.setAll, Nat.reduceAdd, Nat.reduceSub, Nat.reduceMul, if_true, if_false, ↓reduceIte, forall_const, implies_true, reduceCtorEq, ne_eq, Nat.reduceBNe, Nat.reduceBEq, IntKind.signed, Nat.reduceEqDiff, Nat.reduceLeDiff, Nat.reduceLT, eq_self, Int.reduceEq, Int.reduceLT, Int.reduceLE, Int.reduceAdd, Int.reduceSub, VC.regC_nil, VC.regC_cons, VC.regCK_eq, VC.callQ, VC.tailQ, VC.goCall, VC.chStep]
  change Q _ _ (w.alloc (.cells #[nilS, nilS, nilS, nilS] 37))
  generalize w.alloc (.cells #[nilS, nilS, nilS, nilS] 37) = wa at hH0 hB0 hz0 ⊢
  generalize hrb : w.heap.size = rb at hH0 hB0 hz0 ⊢
  subst hQ
  simp -dsimp only [Fa.F16, e1, e2, e3, VC.Now, VC.vc, VC.lib, VC.mapN_drewN, VC.mapB_drewN, VC.regQ, VC.loopK, VC.reg, VC.opP, VC.pv, VC.thenF, VC.blkF, VC.retF, VC.resV, VC.oneV, VC.evo, VC.bin, VC.binI, VC.cmpI, VC.arithI, VC.ldv, VC.slv, VC.pickP, VC.holds, VC.chainOf, VC.look, VC.junk, VC.put, VC.eff, VC.callee, VC.pureB, VC.rdK, VC.rdKs, VC.okKs, VC.eqKs, VC.fillL, VC.putL, VC.mixF, VC.setAll, Nat.reduceAdd, Nat.reduceSub, Nat.reduceMul, if_true, if_false, ↓reduceIte, forall_const, implies_true, reduceCtorEq, ne_eq, Nat.reduceBNe, Nat.reduceBEq, IntKind.signed, Nat.reduceEqDiff, Nat.reduceLeDiff, Nat.reduceLT, eq_self, Int.reduceEq, Int.reduceLT, Int.reduceLE, Int.reduceAdd, Int.reduceSub, VC.regC_nil, VC.regC_cons, VC.regCK_eq, VC.callQ, VC.tailQ, VC.goCall, VC.chStep]
  intro u
  refine OPW_makeK (n := n) (base := 0) rfl Fa.apI34 rfl rfl rfl rfl (by omega) (by omega) (Nat.zero_le _) fun w4 ho4 hg4 => ?_
  have hB4 : Below wa.heap.size wa w4 := (Below.refl _ _).grown hg4 (Nat.le_refl _) fun k hk => by cases hk
  have hl4 : wa.heap.size < w4.heap.size := (ho4.lt (g := wa.heap.size) rfl).2
  have hH1 := (hH0.st_add (o := oRecs wa.heap.size n 3 (fun _ => vtrC ⟨0, bal0⟩)) hB4 (Recs.of_own (cs := fun _ => vtrC ⟨0, bal0⟩) ho4 hl4 (fun i hi j hj => made_at _ rfl hi hj)) (fun g hg => by cases hg; exact Nat.le_refl _)).hp
  have hBb := hB0.trans (hB4.mono (by omega))
  rw [VC.Now, VC.seqK_eq]
  generalize hgm : wa.heap.size = gc at hH1 ⊢
  simp -dsimp only [Fa.F16, e1, e2, e3, VC.Now, VC.vc, VC.lib, VC.mapN_drewN, VC.mapB_drewN, VC.regQ, VC.loopK, VC.reg, VC.opP, VC.pv, VC.thenF, VC.blkF, VC.retF, VC.resV, VC.oneV, VC.evo, VC.bin, VC.binI, VC.cmpI, VC.arithI, VC.ldv, VC.slv, VC.pickP, VC.holds, VC.chainOf, VC.look, VC.junk, VC.put, VC.eff, VC.callee, VC.pureB, VC.rdK, VC.rdKs, VC.okKs, VC.eqKs, VC.fillL, VC.putL, VC.mixF, VC.setAll, Nat.reduceAdd, Nat.reduceSub, Nat.reduceMul, if_true, if_false, ↓reduceIte, forall_const, implies_true, reduceCtorEq, ne_eq, Nat.reduceBNe, Nat.reduceBEq, IntKind.signed, Nat.reduceEqDiff, Nat.reduceLeDiff, Nat.reduceLT, eq_self, Int.reduceEq, Int.reduceLT, Int.reduceLE, Int.reduceAdd, Int.reduceSub, VC.regC_nil, VC.regC_cons, VC.regCK_eq, VC.callQ, VC.tailQ, VC.goCall, VC.chStep]
  refine OPW_makeMapV EI rfl fun w5 hw5 hM5 => ?_
  have hB5 : Below w4.heap.size w4 w5 := by rw [hw5]; exact (Below.refl _ w4).alloc (Nat.le_refl _) _
  have hz5 : w5.heap.size = w4.heap.size + 1 := by rw [hw5]; simp
  have hH2 := (hH1.st_add (o := oMap EI w4.heap.size 0 (fun _ => none)) hB5 hM5 (fun g hg => by cases hg; exact Nat.le_refl _)).hp
  rw [VC.Now, VC.seqK_eq]
  clear hw5 hM5
  generalize hmb : w4.heap.size = mb at hH2 hz5 ⊢
  simp -dsimp only [Fa.F16, e1, e2, e3, VC.Now, VC.vc, VC.lib, VC.mapN_drewN, VC.mapB_drewN, VC.regQ, VC.loopK, VC.reg, VC.opP, VC.pv, VC.thenF, VC.blkF, VC.retF, VC.resV, VC.oneV, VC.evo, VC.bin, VC.binI, VC.cmpI, VC.arithI, VC.ldv, VC.slv, VC.pickP, VC.holds, VC.chainOf, VC.look, VC.junk, VC.put, VC.eff, VC.callee, VC.pureB, VC.rdK, VC.rdKs, VC.okKs, VC.eqKs, VC.fillL, VC.putL, VC.mixF, VC.setAll, Nat.reduceAdd, Nat.reduceSub, Nat.reduceMul, if_true, if_false, ↓reduceIte, forall_const, implies_true, reduceCtorEq, ne_eq, Nat.reduceBNe, Nat.reduceBEq, IntKind.signed, Nat.reduceEqDiff, Nat.reduceLeDiff, Nat.reduceLT, eq_self, Int.reduceEq, Int.reduceLT, Int.reduceLE, Int.reduceAdd, Int.reduceSub, VC.regC_nil, VC.regC_cons, VC.regCK_eq, VC.callQ, VC.tailQ, VC.goCall, VC.chStep]
  have hH3 := (hH2.st_add (o := oBox w5.heap.size (worldP n ⟨w5.heap.size, gc, mb, nilS, nilS, nilS, fun _ => 0, fun _ => 0⟩)) ((Below.refl _ _).alloc (Nat.le_refl _) (.cells _ _)) (Box.new w5 _ 105) (fun g hg => by cases hg; exact Nat.le_refl _)).hp
  have hB6 : Below w5.heap.size w5 (w5.alloc (.cells (worldP n ⟨w5.heap.size, gc, mb, nilS, nilS, nilS, fun _ => 0, fun _ => 0⟩).toArray 105)) := (Below.refl _ _).alloc (Nat.le_refl _) _
  change WP _ _ _ _ _ _ (w5.alloc (.cells (worldP n ⟨w5.heap.size, gc, mb, nilS, nilS, nilS, fun _ => 0, fun _ => 0⟩).toArray 105))
  have hBd := (hBb.trans (hB5.mono (by have := hB0.size; have := hB4.size; omega))).trans (hB6.mono (by have := hB0.size; have := hB4.size; omega))
  generalize w5.alloc (.cells (worldP n ⟨w5.heap.size, gc, mb, nilS, nilS, nilS, fun _ => 0, fun _ => 0⟩).toArray 105) = w6 at hH3 hBd ⊢
  generalize w5.heap.size = wb at hH3 ⊢
  have hH8 := ((hH3.st_add (o := oOwn 24 1 0 nilS []) (Below.refl _ _) (OwnK.nil _ _ _ _) (fun g hg => by cases hg)).hp.st_add (o := oOwn 117 2 0 nilS []) (Below.refl _ _) (OwnK.nil _ _ _ _) (fun g hg => by cases hg)).hp
  have hH9 := (hH8.st_add (o := oOwn 117 2 0 nilS []) (Below.refl _ _) (OwnK.nil _ _ _ _) (fun g hg => by cases hg)).hp.pick [2, 6, 3, 5, 4, 0, 1] (by decide) ([oOwn 24 1 0 nilS [], oBox rb [nilS, nilS, nilS, nilS]] ++ PObs n ⟨wb, gc, mb, nilS, nilS, nilS, fun _ => 0, fun _ => 0⟩ ps0) rfl
  clear hH0 hH1 hH2 hH3 hH8 hB0 hBb hB4 hB5 ho4 hg4 hB6
  refine loop_slots Fa.mix [28] [8, 29, 30, 31, 32, 33, 34, 35, 36, 37, 38, 39, 40, 41, 42, 43, 44, 45, 46] (fun m vs wx => ∃ (k : Nat) (a : PA), k + m = len ∧ vs = [.int .i64 k] ∧ a.wb = wb ∧ Below rb w wx ∧
      Hp rb ([oOwn 24 1 k a.vc (pcodes n g k), oBox rb [nilS, nilS, nilS, nilS]] ++ PObs n a (pst n g k)) wx) len (by kernel_rfl) rfl
    ⟨0, ⟨wb, gc, mb, nilS, nilS, nilS, fun _ => 0, fun _ => 0⟩, by omega, rfl, rfl, hBd, hH9⟩ ?_
  clear hH9 hBd
  rintro m vs u2 wx ⟨k, a, hkm, rfl, hwb, hBx, hH⟩
  subst hwb
  have hok := pok n g k
  by_cases hk : k < len
  · obtain ⟨b, o, rfl, hb, hc⟩ := (hr.below (by rw [hrb]; exact hBx)) (by omega)
    have s0 := hc k hk 0 _ rfl
    have s1 := hc k hk 1 _ rfl
    have s2 := hc k hk 2 _ rfl
    have s3 := hc k hk 3 _ rfl
    simp only [Nat.add_zero] at s0
    have e7 : ((k : Int) < len) = True := eq_true (by omega)
    have hms : pst n g (k + 1) = (pstep n (g k) (pst n g k)).2 := rfl
    have hmc := pcodes_succ n g k
    have hgk0 := hg k
    generalize pst n g k = s at *
    generalize hgk : g k = c at *
    obtain ⟨Ac, cc, ec, _⟩ := id (hH.get 0 rfl : OwnK wx 0 24 1 k a.vc _)
    simp -dsimp only [Fa.F16, e7, rdI_of s0, s0, rdI_of s1, s1, rdI_of s2, s2, rdI_of s3, s3, hb, Int.toNat_natCast, VC.Now, VC.vc, VC.lib, VC.mapN_drewN, VC.mapB_drewN, VC.regQ, VC.loopK, VC.reg, VC.opP, VC.pv, VC.thenF, VC.blkF, VC.retF, VC.resV, VC.oneV, VC.evo, VC.bin, VC.binI, VC.cmpI, VC.arithI, VC.ldv, VC.slv, VC.pickP, VC.holds, VC.chainOf, VC.look, VC.junk, VC.put, VC.eff, VC.callee, VC.pureB, VC.rdK, VC.rdKs, VC.okKs, VC.eqKs, VC.fillL, VC.putL, VC.stW, VC.stOK, VC.mixF, VC.setAll, Nat.reduceAdd, Nat.reduceSub, Nat.reduceMul, if_true, if_false, ↓reduceIte, forall_const, implies_true, reduceCtorEq, ne_eq, Nat.reduceBNe, Nat.reduceBEq, IntKind.signed, Nat.reduceEqDiff, Nat.reduceLeDiff, Nat.reduceLT, eq_self, Int.reduceEq, Int.reduceLT, Int.reduceLE, Int.reduceAdd, Int.reduceSub, VC.regC_nil, VC.regC_cons, VC.regCK_eq, VC.callQ, VC.tailQ, VC.goCall, VC.chStep]
    refine ⟨by omega, ?_⟩
    have hsay : Box (wx.alloc (.cells (tryL c).toArray 107)) wx.heap.size (tryL c) := Box.new wx _ _
    have hBs : Below wx.heap.size wx (wx.alloc (.cells (tryL c).toArray 107)) := (Below.refl _ _).alloc (Nat.le_refl _) _
    change WP _ _ _ _ _ _ (wx.alloc (.cells (tryL c).toArray 107))
    generalize wx.alloc (.cells (tryL c).toArray 107) = wy at hsay hBs ⊢
    have hHy := (hH.below hBs).perm (List.perm_append_comm)
    have hBy : Below rb w wy := hBx.trans (hBs.mono hH.base)
    have nsay : ¬ foot (PObs n a s) wx.heap.size := fun hf => by have := ((hH.perm (List.perm_append_comm)).left.foot_lt hf).2; omega
    have nsc : a.vc.ownBlock ≠ some wx.heap.size := fun hf => by have := (hH.lt 0 rfl hf).2; omega
    generalize wx.heap.size = sb at hsay hBs nsay nsc ⊢
    have hby := hsay.1
    have z0 := hsay.at (i := 0) rfl
    have z1 := hsay.at (i := 1) rfl
    have z2 := hsay.at (i := 2) rfl
    have z3 := hsay.at (i := 3) rfl
    have hHz := hHy.perm (List.perm_append_comm)
    have y1 := (hHz.get 2 rfl : Box wy a.wb _).at (i := 2) rfl
    rw [ec] at y1
    have hwl := (hHz.get 2 rfl : Box wy a.wb _).1
    have hHd := hHy.drewN 1
    have ag0 : Agree (fun j => foot (PObs n a s) j ∨ a.vc.ownBlock = some j) wy (wy.drewN 1) := Agree.of_below (below_drewN (Below.refl _ wy) 1)
    refine WP_held 14 (fun j => foot (PObs n a s) j ∨ a.vc.ownBlock = some j) (.take 0 (.take 1 (.take 2 (.take 3 (.take 4 (.take 6 (.take 7 (.two 5 (.one 8 (.one 9 (.one 10 (.one 11 (.one 12 (.one 13 (.one 14 .done))))))) 8 (.two 5 (.one 9 (.one 10 (.one 11 (.one 12 (.one 13 (.one 14 .done)))))) 9 (.one 5 (.one 10 (.one 11 (.one 12 (.one 13 (.one 14 .done))))))))))))))) Fa.mix (by kernel_rfl) rfl ?_
    simp -dsimp only [VC.heldF_done, VC.heldF_last, VC.planF_done, VC.planF_take, VC.planF_one, VC.planF_two, VC.planK_eq, VC.heldF_take, VC.heldF_one, VC.heldF_two, VC.heldF_twoL, VC.heldK_eq, VC.okRd, Fa.F16, rdI_of z0, z0, rdI_of z1, z1, rdI_of z2, z2, rdI_of z3, z3, rdSA_of y1, rdSN_of y1, rdSC_of y1, y1, hwl, VC.Now, VC.vc, VC.lib, VC.mapN_drewN, VC.mapB_drewN, VC.regQ, VC.loopK, VC.reg, VC.opP, VC.pv, VC.thenF, VC.blkF, VC.retF, VC.resV, VC.oneV, VC.evo, VC.bin, VC.binI, VC.cmpI, VC.arithI, VC.ldv, VC.slv, VC.pickP, VC.holds, VC.chainOf, VC.look, VC.junk, VC.put, VC.eff, VC.callee, VC.pureB, VC.rdK, VC.rdKs, VC.okKs, VC.eqKs, VC.fillL, VC.putL, VC.stW, VC.stOK, VC.mixF, VC.setAll, Nat.reduceAdd, Nat.reduceSub, Nat.reduceMul, if_true, if_false, ↓reduceIte, forall_const, implies_true, reduceCtorEq, ne_eq, Nat.reduceBNe, Nat.reduceBEq, IntKind.signed, Nat.reduceEqDiff, Nat.reduceLeDiff, Nat.reduceLT, eq_self, Int.reduceEq, Int.reduceLT, Int.reduceLE, Int.reduceAdd, Int.reduceSub, VC.regC_nil, VC.regC_cons, VC.regCK_eq, VC.callQ, VC.tailQ, VC.goCall, VC.chStep]
    refine ⟨⟨hby, fun h => h.elim nsay nsc⟩, ⟨ag0, ?_⟩, ?_⟩
    ·
      refine CALL_by (pstep_any (n := n) (t := k) (a := a) (s := s) hHd.left hok (by omega) h5 c hgk0) fun e w4 hp => ⟨_, hp.1, ?_⟩
      obtain ⟨_, ⟨wb', gv', mb', vc', vf', vh', pb', tb'⟩, h2, h3, st4⟩ := hp
      have h2 : wb' = a.wb := h2
      have h3 : vc' = a.vc := h3
      subst wb' vc'
      have st5 := (st4.part hHd).perm List.perm_append_comm List.perm_append_comm
      have ag4 := ag0.trans (st4.agree.mono fun j _ hj => Or.inl hj)
      have hH4 := st5.hp
      have y2 := (hH4.get 2 rfl : Box w4 a.wb _).at (i := 2) rfl
      have hw4 := (hH4.get 2 rfl : Box w4 a.wb _).1
      rw [ec] at y2
      simp -dsimp only [VC.heldF_done, VC.heldF_last, VC.planF_done, VC.planF_take, VC.planF_one, VC.planF_two, VC.planK_eq, VC.heldF_take, VC.heldF_one, VC.heldF_two, VC.heldF_twoL, VC.heldK_eq, VC.okRd, Fa.F16, rdSA_of y1, rdSN_of y1, rdSC_of y1, y1, hwl, hw4, rdSA_of y2, rdSN_of y2, rdSC_of y2, y2, VC.Now, VC.vc, VC.lib, VC.mapN_drewN, VC.mapB_drewN, VC.regQ, VC.loopK, VC.reg, VC.opP, VC.pv, VC.thenF, VC.blkF, VC.retF, VC.resV, VC.oneV, VC.evo, VC.bin, VC.binI, VC.cmpI, VC.arithI, VC.ldv, VC.slv, VC.pickP, VC.holds, VC.chainOf, VC.look, VC.junk, VC.put, VC.eff, VC.callee, VC.pureB, VC.rdK, VC.rdKs, VC.okKs, VC.eqKs, VC.fillL, VC.putL, VC.stW, VC.stOK, VC.mixF, VC.setAll, Nat.reduceAdd, Nat.reduceSub, Nat.reduceMul, if_true, if_false, ↓reduceIte, forall_const, implies_true, reduceCtorEq, ne_eq, Nat.reduceBNe, Nat.reduceBEq, IntKind.signed, Nat.reduceEqDiff, Nat.reduceLeDiff, Nat.reduceLT, eq_self, Int.reduceEq, Int.reduceLT, Int.reduceLE, Int.reduceAdd, Int.reduceSub, VC.regC_nil, VC.regC_cons, VC.regCK_eq, VC.callQ, VC.tailQ, VC.goCall, VC.chStep]
      refine ⟨ag4, ag4.trans (Agree.of_below ((Below.refl _ _).alloc (Nat.le_refl _) _)), ?_⟩
      refine OPW_appK (v := a.vc) rfl Fa.apI33 (by rw [ec]; rfl) rfl rfl (by simp [Value.oneCell']) (hH4.get 0 rfl) (Nat.zero_le _) (by omega) (by decide) fun v5 w5 ho5 hg5 hst5 => ?_
      rw [← hmc] at ho5
      obtain ⟨⟨r1, r2⟩, st6⟩ := hH4.growField 2 0 rfl rfl (by decide) ho5 hg5 hst5 2 (by show 2 < 6; omega)
      obtain ⟨A5, c5, rfl, _⟩ := id ho5
      have hw6 : a.wb < w5.heap.size := by simpa using (st6.hp.get 2 rfl : Box _ a.wb _).1
      simp -dsimp only [VC.heldF_done, VC.heldF_last, VC.planF_done, VC.planF_take, VC.planF_one, VC.planF_two, VC.planK_eq, VC.heldF_take, VC.heldF_one, VC.heldF_two, VC.heldF_twoL, VC.heldK_eq, VC.okRd, Fa.F16, hw6, hw4, hwl, VC.Now, VC.vc, VC.lib, VC.mapN_drewN, VC.mapB_drewN, VC.regQ, VC.loopK, VC.reg, VC.opP, VC.pv, VC.thenF, VC.blkF, VC.retF, VC.resV, VC.oneV, VC.evo, VC.bin, VC.binI, VC.cmpI, VC.arithI, VC.ldv, VC.slv, VC.pickP, VC.holds, VC.chainOf, VC.look, VC.junk, VC.put, VC.eff, VC.callee, VC.pureB, VC.rdK, VC.rdKs, VC.okKs, VC.eqKs, VC.fillL, VC.putL, VC.stW, VC.stOK, VC.mixF, VC.setAll, Nat.reduceAdd, Nat.reduceSub, Nat.reduceMul, if_true, if_false, ↓reduceIte, forall_const, implies_true, reduceCtorEq, ne_eq, Nat.reduceBNe, Nat.reduceBEq, IntKind.signed, Nat.reduceEqDiff, Nat.reduceLeDiff, Nat.reduceLT, eq_self, Int.reduceEq, Int.reduceLT, Int.reduceLE, Int.reduceAdd, Int.reduceSub, VC.regC_nil, VC.regC_cons, VC.regCK_eq, VC.callQ, VC.tailQ, VC.goCall, VC.chStep]
      have ag6 := ag4.trans (Agree.grown hg5 fun j hj => Or.inr hj)
      have hBw : Below rb w (w5.setCell ⟨a.wb, 2, none⟩ (.slice A5 (k + 1) c5)) := hBy.trans ((below_drewN (Below.refl rb wy) 1).trans ((st5.trans st6).below (hHd.perm List.perm_append_comm)))
      refine ⟨ag6, ag6, ag6, ag6, ⟨r1, r2⟩, fits_i64_nat (by omega), SAME.intro (by kernel_rfl), m - 1, by omega, k + 1, ⟨a.wb, gv', mb', .slice A5 (k + 1) c5, vf', vh', pb', tb'⟩, by omega, rfl, rfl, hBw, ?_⟩
      rw [hms]
      exact st6.hp
    ·
      refine CALL_by (pstep_any (n := n) (t := k) (a := a) (s := s) hHd.left hok (by omega) h5 c hgk0) fun e w4 hp => ⟨_, hp.1, ?_⟩
      obtain ⟨_, ⟨wb', gv', mb', vc', vf', vh', pb', tb'⟩, h2, h3, st4⟩ := hp
      have h2 : wb' = a.wb := h2
      have h3 : vc' = a.vc := h3
      subst wb' vc'
      have st5 := (st4.part hHd).perm List.perm_append_comm List.perm_append_comm
      have ag4 := ag0.trans (st4.agree.mono fun j _ hj => Or.inl hj)
      have hH4 := st5.hp
      have y2 := (hH4.get 2 rfl : Box w4 a.wb _).at (i := 2) rfl
      have hw4 := (hH4.get 2 rfl : Box w4 a.wb _).1
      rw [ec] at y2
      simp -dsimp only [VC.heldF_done, VC.heldF_last, VC.planF_done, VC.planF_take, VC.planF_one, VC.planF_two, VC.planK_eq, VC.heldF_take, VC.heldF_one, VC.heldF_two, VC.heldF_twoL, VC.heldK_eq, VC.okRd, Fa.F16, rdSA_of y1, rdSN_of y1, rdSC_of y1, y1, hwl, hw4, rdSA_of y2, rdSN_of y2, rdSC_of y2, y2, VC.Now, VC.vc, VC.lib, VC.mapN_drewN, VC.mapB_drewN, VC.regQ, VC.loopK, VC.reg, VC.opP, VC.pv, VC.thenF, VC.blkF, VC.retF, VC.resV, VC.oneV, VC.evo, VC.bin, VC.binI, VC.cmpI, VC.arithI, VC.ldv, VC.slv, VC.pickP, VC.holds, VC.chainOf, VC.look, VC.junk, VC.put, VC.eff, VC.callee, VC.pureB, VC.rdK, VC.rdKs, VC.okKs, VC.eqKs, VC.fillL, VC.putL, VC.stW, VC.stOK, VC.mixF, VC.setAll, Nat.reduceAdd, Nat.reduceSub, Nat.reduceMul, if_true, if_false, ↓reduceIte, forall_const, implies_true, reduceCtorEq, ne_eq, Nat.reduceBNe, Nat.reduceBEq, IntKind.signed, Nat.reduceEqDiff, Nat.reduceLeDiff, Nat.reduceLT, eq_self, Int.reduceEq, Int.reduceLT, Int.reduceLE, Int.reduceAdd, Int.reduceSub, VC.regC_nil, VC.regC_cons, VC.regCK_eq, VC.callQ, VC.tailQ, VC.goCall, VC.chStep]
      have agA := ag4.trans (Agree.of_below (X := fun j => foot (PObs n a s) j ∨ a.vc.ownBlock = some j) ((Below.refl w4.heap.size w4).alloc (Nat.le_refl _) (.cells #[Value.int IntKind.i64 (pstep n c s).fst] 24)))
      refine ⟨ag4, ⟨ag4, agA, ?_⟩, agA, agA, ?_⟩
      ·
        refine OPW_appK (v := a.vc) rfl Fa.apI33 (by rw [ec]; rfl) rfl rfl (by simp [Value.oneCell']) (hH4.get 0 rfl) (Nat.zero_le _) (by omega) (by decide) fun v5 w5 ho5 hg5 hst5 => ?_
        rw [← hmc] at ho5
        obtain ⟨⟨r1, r2⟩, st6⟩ := hH4.growField 2 0 rfl rfl (by decide) ho5 hg5 hst5 2 (by show 2 < 6; omega)
        obtain ⟨A5, c5, rfl, _⟩ := id ho5
        have hw6 : a.wb < w5.heap.size := by simpa using (st6.hp.get 2 rfl : Box _ a.wb _).1
        simp -dsimp only [VC.heldF_done, VC.heldF_last, VC.planF_done, VC.planF_take, VC.planF_one, VC.planF_two, VC.planK_eq, VC.heldF_take, VC.heldF_one, VC.heldF_two, VC.heldF_twoL, VC.heldK_eq, VC.okRd, Fa.F16, hw6, hw4, hwl, VC.Now, VC.vc, VC.lib, VC.mapN_drewN, VC.mapB_drewN, VC.regQ, VC.loopK, VC.reg, VC.opP, VC.pv, VC.thenF, VC.blkF, VC.retF, VC.resV, VC.oneV, VC.evo, VC.bin, VC.binI, VC.cmpI, VC.arithI, VC.ldv, VC.slv, VC.pickP, VC.holds, VC.chainOf, VC.look, VC.junk, VC.put, VC.eff, VC.callee, VC.pureB, VC.rdK, VC.rdKs, VC.okKs, VC.eqKs, VC.fillL, VC.putL, VC.stW, VC.stOK, VC.mixF, VC.setAll, Nat.reduceAdd, Nat.reduceSub, Nat.reduceMul, if_true, if_false, ↓reduceIte, forall_const, implies_true, reduceCtorEq, ne_eq, Nat.reduceBNe, Nat.reduceBEq, IntKind.signed, Nat.reduceEqDiff, Nat.reduceLeDiff, Nat.reduceLT, eq_self, Int.reduceEq, Int.reduceLT, Int.reduceLE, Int.reduceAdd, Int.reduceSub, VC.regC_nil, VC.regC_cons, VC.regCK_eq, VC.callQ, VC.tailQ, VC.goCall, VC.chStep]
        have ag6 := ag4.trans (Agree.grown hg5 fun j hj => Or.inr hj)
        have hBw : Below rb w (w5.setCell ⟨a.wb, 2, none⟩ (.slice A5 (k + 1) c5)) := hBy.trans ((below_drewN (Below.refl rb wy) 1).trans ((st5.trans st6).below (hHd.perm List.perm_append_comm)))
        refine ⟨ag6, ag6, ag6, ag6, ⟨r1, r2⟩, fits_i64_nat (by omega), SAME.intro (by kernel_rfl), m - 1, by omega, k + 1, ⟨a.wb, gv', mb', .slice A5 (k + 1) c5, vf', vh', pb', tb'⟩, by omega, rfl, rfl, hBw, ?_⟩
        rw [hms]
        exact st6.hp
      ·
        refine OPW_appK (v := a.vc) rfl Fa.apI33 (by rw [ec]; rfl) rfl rfl (by simp [Value.oneCell']) (hH4.get 0 rfl) (Nat.zero_le _) (by omega) (by decide) fun v5 w5 ho5 hg5 hst5 => ?_
        rw [← hmc] at ho5
        obtain ⟨⟨r1, r2⟩, st6⟩ := hH4.growField 2 0 rfl rfl (by decide) ho5 hg5 hst5 2 (by show 2 < 6; omega)
        obtain ⟨A5, c5, rfl, _⟩ := id ho5
        have hw6 : a.wb < w5.heap.size := by simpa using (st6.hp.get 2 rfl : Box _ a.wb _).1
        simp -dsimp only [VC.heldF_done, VC.heldF_last, VC.planF_done, VC.planF_take, VC.planF_one, VC.planF_two, VC.planK_eq, VC.heldF_take, VC.heldF_one, VC.heldF_two, VC.heldF_twoL, VC.heldK_eq, VC.okRd, Fa.F16, hw6, hw4, hwl, VC.Now, VC.vc, VC.lib, VC.mapN_drewN, VC.mapB_drewN, VC.regQ, VC.loopK, VC.reg, VC.opP, VC.pv, VC.thenF, VC.blkF, VC.retF, VC.resV, VC.oneV, VC.evo, VC.bin, VC.binI, VC.cmpI, VC.arithI, VC.ldv, VC.slv, VC.pickP, VC.holds, VC.chainOf, VC.look, VC.junk, VC.put, VC.eff, VC.callee, VC.pureB, VC.rdK, VC.rdKs, VC.okKs, VC.eqKs, VC.fillL, VC.putL, VC.stW, VC.stOK, VC.mixF, VC.setAll, Nat.reduceAdd, Nat.reduceSub, Nat.reduceMul, if_true, if_false, ↓reduceIte, forall_const, implies_true, reduceCtorEq, ne_eq, Nat.reduceBNe, Nat.reduceBEq, IntKind.signed, Nat.reduceEqDiff, Nat.reduceLeDiff, Nat.reduceLT, eq_self, Int.reduceEq, Int.reduceLT, Int.reduceLE, Int.reduceAdd, Int.reduceSub, VC.regC_nil, VC.regC_cons, VC.regCK_eq, VC.callQ, VC.tailQ, VC.goCall, VC.chStep]
        have ag6 := ag4.trans (Agree.grown hg5 fun j hj => Or.inr hj)
        have hBw : Below rb w (w5.setCell ⟨a.wb, 2, none⟩ (.slice A5 (k + 1) c5)) := hBy.trans ((below_drewN (Below.refl rb wy) 1).trans ((st5.trans st6).below (hHd.perm List.perm_append_comm)))
        refine ⟨ag6, ag6, ag6, ag6, ⟨r1, r2⟩, fits_i64_nat (by omega), SAME.intro (by kernel_rfl), m - 1, by omega, k + 1, ⟨a.wb, gv', mb', .slice A5 (k + 1) c5, vf', vh', pb', tb'⟩, by omega, rfl, rfl, hBw, ?_⟩
        rw [hms]
        exact st6.hp
  · obtain rfl : k = len := by omega
    have e7 : ((k : Int) < k) = False := eq_false (by omega)
    unfold PaxQ
    have hcl : ((List.range k).map (pcode n g)).length = k := by simp
    have hce : pcodes n g k = ((List.range k).map (pcode n g)).map (Value.int .i64) := by unfold pcodes; rw [List.map_map]; rfl
    rw [hce] at hH
    generalize (List.range k).map (pcode n g) = codes at *
    generalize pst n g k = s at *
    have bx : Box wx a.wb (worldP n a) := hH.get 2 rfl
    have x0 := bx.at (i := 0) rfl
    have f3 := bx.soft (i := 3) (by show 3 < 6; omega)
    have k3 : (wx.cell? ⟨a.wb, 3, none⟩).isSome = true := by rw [bx.at (i := 3) rfl]; rfl
    have hwl := bx.1
    have st1 := hH.setBox 2 rfl 3 (.slice (some ⟨a.gv, 0, none⟩) n n)
    have hBw := hBx.trans (st1.below hH)
    have hHw := st1.hp
    obtain ⟨wy, hwy⟩ : ∃ wy, wy = wx.setCell ⟨a.wb, 3, none⟩ (.slice (some ⟨a.gv, 0, none⟩) n n) := ⟨_, rfl⟩
    rw [← hwy] at hHw hBw
    obtain ⟨A0, c0, e0, _⟩ := id (hHw.get 0 rfl : OwnK wy 0 24 1 k a.vc _)
    obtain ⟨A2, c2, e2, _⟩ := id (hHw.get 5 rfl : OwnK wy 0 117 2 s.fixd.length a.vf _)
    obtain ⟨A3, c3, e3, _⟩ := id (hHw.get 6 rfl : OwnK wy 0 117 2 s.chosen.length a.vh _)
    have bw : Box wy a.wb [.slice (some ⟨a.gv, 0, none⟩) n n, .map (some a.mb), a.vc, .slice (some ⟨a.gv, 0, none⟩) n n, a.vf, a.vh] := hHw.get 2 rfl
    have x2 := bw.at (i := 2) rfl
    have x3 := bw.at (i := 3) rfl
    have x4 := bw.at (i := 4) rfl
    have x5 := bw.at (i := 5) rfl
    rw [e0] at x2
    rw [e2] at x4
    rw [e3] at x5
    have hwl2 := bw.1
    obtain ⟨ok, st2⟩ := hHw.allBox 1 rfl (vs := [.slice A0 k c0, .slice (some ⟨a.gv, 0, none⟩) n n, .slice A2 s.fixd.length c2, .slice A3 s.chosen.length c3]) rfl (by intro v hv; simp at hv; rcases hv with rfl | rfl | rfl | rfl <;> rfl)
    have rb5 : Box _ rb [.slice A0 k c0, .slice (some ⟨a.gv, 0, none⟩) n n, .slice A2 s.fixd.length c2, .slice A3 s.chosen.length c3] := st2.hp.get 1 rfl
    have t0 := rb5.at (i := 0) rfl
    have t1 := rb5.at (i := 1) rfl
    have t2 := rb5.at (i := 2) rfl
    have t3 := rb5.at (i := 3) rfl
    simp -dsimp only [Fa.F16, e7, stOK_one, stW_one, rdSA_of x0, rdSN_of x0, rdSC_of x0, x0, f3, k3, hwl, ← hwy, hwl2, rdSA_of x2, rdSN_of x2, rdSC_of x2, x2, rdSA_of x3, rdSN_of x3, rdSC_of x3, x3, rdSA_of x4, rdSN_of x4, rdSC_of x4, x4, rdSA_of x5, rdSN_of x5, rdSC_of x5, x5, hwl, rdSA_of t0, rdSN_of t0, rdSC_of t0, t0, rdSA_of t1, rdSN_of t1, rdSC_of t1, t1, rdSA_of t2, rdSN_of t2, rdSC_of t2, t2, rdSA_of t3, rdSN_of t3, rdSC_of t3, t3, VC.Now, VC.vc, VC.lib, VC.mapN_drewN, VC.mapB_drewN, VC.regQ, VC.loopK, VC.reg, VC.opP, VC.pv, VC.thenF, VC.blkF, VC.retF, VC.resV, VC.oneV, VC.evo, VC.bin, VC.binI, VC.cmpI, VC.arithI, VC.ldv, VC.slv, VC.pickP, VC.holds, VC.chainOf, VC.look, VC.junk, VC.put, VC.eff, VC.callee, VC.pureB, VC.rdK, VC.rdKs, VC.okKs, VC.eqKs, VC.fillL, VC.putL, VC.mixF, VC.setAll, Nat.reduceAdd, Nat.reduceSub, Nat.reduceMul, if_true, if_false, ↓reduceIte, forall_const, implies_true, reduceCtorEq, ne_eq, Nat.reduceBNe, Nat.reduceBEq, IntKind.signed, Nat.reduceEqDiff, Nat.reduceLeDiff, Nat.reduceLT, eq_self, Int.reduceEq, Int.reduceLT, Int.reduceLE, Int.reduceAdd, Int.reduceSub, VC.regC_nil, VC.regC_cons, VC.regCK_eq, VC.callQ, VC.tailQ, VC.goCall, VC.chStep]
    have q0 := (st2.hp.get 0 rfl : OwnK _ 0 24 1 k a.vc _)
    have q2 := (st2.hp.get 5 rfl : OwnK _ 0 117 2 s.fixd.length a.vf _)
    have q3 := (st2.hp.get 6 rfl : OwnK _ 0 117 2 s.chosen.length a.vh _)
    rw [e0] at q0
    rw [e2] at q2
    rw [e3] at q3
    exact ⟨ok, _, rfl, ⟨A0, c0, _, n, A2, c2, A3, c3, rfl, hcl, q0.rd.2, RdT.recs (st2.hp.get 3 rfl) (fun _ _ => rfl), RdT.ownL q2 (fun _ => rfl) bal0, RdT.ownL q3 (fun _ => rfl) bal0⟩, by rw [hrb]; exact hBw.trans (st2.below hHw)⟩
end
end Go.Proofs.Ytelfmhiaafkimaa
