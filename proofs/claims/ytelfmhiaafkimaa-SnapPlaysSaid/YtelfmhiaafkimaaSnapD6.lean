/- A picture of what moves, the document's: its script. -/
import Derived.Test.YtelfmhiaafkimaaSnapD5
namespace Go.Proofs.Ytelfmhiaafkimaa
open Go Go.RowKit Go.VC
set_option linter.unusedSimpArgs false
set_option linter.unusedVariables false
theorem perm6 {α : Type} (m o b l r c : α) : [m, o, b, l, r, c].Perm [c, r, b, m, o, l] := by
  refine (List.perm_append_comm (l₁ := [m, o, b, l]) (l₂ := [r, c])).trans ?_
  refine List.Perm.append (l₁ := [r, c]) (l₂ := [c, r]) (t₁ := [m, o, b, l]) (t₂ := [b, m, o, l]) (List.Perm.swap _ _ _) ?_
  exact (List.perm_append_comm (l₁ := [m, o]) (l₂ := [b])).append_right [l]
set_option maxRecDepth 8000 in
set_option maxHeartbeats 8000000 in
noncomputable def snapDBut : { P : Prop // P → ∀ (A : Option Addr) (n c0 : Nat) (A2 : Option Addr) (len cap : Nat) (m : Nat → Int) (g : Nat → PassC) (w : World), RdT w A n 1 (fun i => [.int .i64 (m i)]) → (∀ i, 0 ≤ m i ∧ m i ≤ 1000) → RdT w A2 len 4 (fun i => passL (g i)) → (∀ i, fits .i64 (g i).n) → 1 ≤ n → n ≤ 6 → len ≤ 120 →
    Calls Try.prog 25 #[.slice A n c0, .slice A2 len cap] w fun e w' => ∃ v, e = .returned v ∧ (∀ w2 : World, Agree (fun j => j < w.heap.size) w' w2 → SnapQ n len ((List.range len).map (ncode n m g)) (nst n m g len) v w2) ∧ Below w.heap.size w w' } := by
  refine ⟨?P3 ∧ True, fun HH => ?body⟩
  case body =>
  intro A n c0 A2 len cap m g w hv hm hr hgf h1 hn hlen
  have hnn36 : n * n ≤ 36 := Nat.mul_le_mul hn hn
  have hnn : (n : Int) * n = ((n * n : Nat) : Int) := by simp
  have hB0 : Below w.heap.size w (w.alloc (.cells #[nilS, nilS, nilS, nilS, .bool false] 56)) := (Below.refl _ _).alloc (Nat.le_refl _) _
  have hH0 := (Hp.nil (B := w.heap.size) (Nat.le_refl _)).st_add (o := oBox w.heap.size z5) hB0 (Box.new w _ _) (fun g hg => by cases hg; exact Nat.le_refl _)
  replace hH0 := hH0.hp
  refine calls_vc (rs := [.cell 4 56]) Fa.mix Try.func25 rfl Try.ntmps25 rfl (by kernel_rfl) (Nat.le_of_ble_eq_true rfl) ?_
  (repeat rw [vc_seq]); refine vc_plain _ fun Q hQ => ?_; simp -dsimp (maxSteps := 2000000) only [Fa.F25, VC.Now, VC.vc_skip, VC.vc_ret, VC.vc_exit, VC.vc_block, VC.vc_cond, VC.vc_region, VC.lib, VC.mapN_drewN, VC.mapB_drewN, VC.regQ, VC.loopK, VC.reg, VC.opP, VC.opS, VC.opZ, VC.nomulB, VC.pv, VC.thenF, VC.blkF, VC.retF, VC.resV, VC.oneV, VC.evo, VC.bin, VC.binI, VC.cmpI, VC.arithI, VC.ldv, VC.slv, VC.pickP, VC.holds, VC.chainOf, VC.look, VC.junk, VC.put, VC.eff, VC.callee, VC.pureB, VC.rdK, VC.rdKs, VC.okKs, VC.eqKs, VC.fillL, VC.putL, VC.stW, VC.stOK, VC.mixF, VC.setAll, Nat.reduceAdd, Nat.reduceSub, Nat.reduceMul, if_true, if_false, ↓reduceIte, forall_const, implies_true, reduceCtorEq, ne_eq, Nat.reduceBNe, Nat.reduceBEq, IntKind.signed, Nat.reduceEqDiff, Nat.reduceLeDiff, Nat.reduceLT, eq_self, Int.reduceEq, Int.reduceLT, Int.reduceLE, Int.reduceAdd, Int.reduceSub, VC.regC_nil, VC.regC_cons, VC.regCK_eq, VC.callQ, VC.tailQ, VC.goCall, VC.chStep]
  change Q _ _ (w.alloc (.cells #[nilS, nilS, nilS, nilS, .bool false] 56))
  generalize w.alloc (.cells #[nilS, nilS, nilS, nilS, .bool false] 56) = wa at hH0 hB0 ⊢
  generalize hrb : w.heap.size = rb at hH0 hB0 ⊢
  subst hQ
  obtain ⟨f1, f2, f3⟩ := boxMade wa z5 z5 56 rfl (by intro v hv; simp at hv; rcases hv with rfl | rfl <;> rfl)
  simp -dsimp (maxSteps := 2000000) only [Fa.F25, VC.Now, VC.vc_skip, VC.vc_ret, VC.vc_exit, VC.vc_block, VC.vc_cond, VC.vc_region, VC.lib, VC.mapN_drewN, VC.mapB_drewN, VC.regQ, VC.loopK, VC.reg, VC.opP, VC.opS, VC.opZ, VC.nomulB, VC.pv, VC.thenF, VC.blkF, VC.retF, VC.resV, VC.oneV, VC.evo, VC.bin, VC.binI, VC.cmpI, VC.arithI, VC.ldv, VC.slv, VC.pickP, VC.holds, VC.chainOf, VC.look, VC.junk, VC.put, VC.eff, VC.callee, VC.pureB, VC.rdK, VC.rdKs, VC.okKs, VC.eqKs, VC.fillL, VC.putL, VC.stW, VC.stOK, VC.mixF, VC.setAll, Nat.reduceAdd, Nat.reduceSub, Nat.reduceMul, if_true, if_false, ↓reduceIte, forall_const, implies_true, reduceCtorEq, ne_eq, Nat.reduceBNe, Nat.reduceBEq, IntKind.signed, Nat.reduceEqDiff, Nat.reduceLeDiff, Nat.reduceLT, eq_self, Int.reduceEq, Int.reduceLT, Int.reduceLE, Int.reduceAdd, Int.reduceSub, VC.regC_nil, VC.regC_cons, VC.regCK_eq, VC.callQ, VC.tailQ, VC.goCall, VC.chStep]
  (repeat rw [vc_seq]); refine vc_plain _ fun Q hQ => ?_; simp -dsimp (maxSteps := 2000000) only [Fa.F25, VC.Now, VC.vc_skip, VC.vc_ret, VC.vc_exit, VC.vc_block, VC.vc_cond, VC.vc_region, VC.lib, VC.mapN_drewN, VC.mapB_drewN, VC.regQ, VC.loopK, VC.reg, VC.opP, VC.opS, VC.opZ, VC.nomulB, VC.pv, VC.thenF, VC.blkF, VC.retF, VC.resV, VC.oneV, VC.evo, VC.bin, VC.binI, VC.cmpI, VC.arithI, VC.ldv, VC.slv, VC.pickP, VC.holds, VC.chainOf, VC.look, VC.junk, VC.put, VC.eff, VC.callee, VC.pureB, VC.rdK, VC.rdKs, VC.okKs, VC.eqKs, VC.fillL, VC.putL, VC.stW, VC.stOK, VC.mixF, VC.setAll, Nat.reduceAdd, Nat.reduceSub, Nat.reduceMul, if_true, if_false, ↓reduceIte, forall_const, implies_true, reduceCtorEq, ne_eq, Nat.reduceBNe, Nat.reduceBEq, IntKind.signed, Nat.reduceEqDiff, Nat.reduceLeDiff, Nat.reduceLT, eq_self, Int.reduceEq, Int.reduceLT, Int.reduceLE, Int.reduceAdd, Int.reduceSub, VC.regC_nil, VC.regC_cons, VC.regCK_eq, VC.callQ, VC.tailQ, VC.goCall, VC.chStep]
  subst hQ; simp -dsimp (maxSteps := 2000000) only [VC.Now, VC.vc_skip, VC.vc_ret, VC.vc_exit, VC.vc_block, VC.vc_cond, VC.vc_region, VC.lib, VC.mapN_drewN, VC.mapB_drewN, VC.regQ, VC.loopK, VC.reg, VC.opP, VC.opS, VC.opZ, VC.nomulB, VC.pv, VC.thenF, VC.blkF, VC.retF, VC.resV, VC.oneV, VC.evo, VC.bin, VC.binI, VC.cmpI, VC.arithI, VC.ldv, VC.slv, VC.pickP, VC.holds, VC.chainOf, VC.look, VC.junk, VC.put, VC.eff, VC.callee, VC.pureB, VC.rdK, VC.rdKs, VC.okKs, VC.eqKs, VC.fillL, VC.putL, VC.stW, VC.stOK, VC.mixF, VC.setAll, Nat.reduceAdd, Nat.reduceSub, Nat.reduceMul, if_true, if_false, ↓reduceIte, forall_const, implies_true, reduceCtorEq, ne_eq, Nat.reduceBNe, Nat.reduceBEq, IntKind.signed, Nat.reduceEqDiff, Nat.reduceLeDiff, Nat.reduceLT, eq_self, Int.reduceEq, Int.reduceLT, Int.reduceLE, Int.reduceAdd, Int.reduceSub, VC.regC_nil, VC.regC_cons, VC.regCK_eq, VC.callQ, VC.tailQ, VC.goCall, VC.chStep]; (repeat rw [vc_seq]); refine vc_plain _ fun Q hQ => ?_; simp -dsimp (maxSteps := 2000000) only [Fa.F25, VC.Now, VC.vc_skip, VC.vc_ret, VC.vc_exit, VC.vc_block, VC.vc_cond, VC.vc_region, VC.lib, VC.mapN_drewN, VC.mapB_drewN, VC.regQ, VC.loopK, VC.reg, VC.opP, VC.opS, VC.opZ, VC.nomulB, VC.pv, VC.thenF, VC.blkF, VC.retF, VC.resV, VC.oneV, VC.evo, VC.bin, VC.binI, VC.cmpI, VC.arithI, VC.ldv, VC.slv, VC.pickP, VC.holds, VC.chainOf, VC.look, VC.junk, VC.put, VC.eff, VC.callee, VC.pureB, VC.rdK, VC.rdKs, VC.okKs, VC.eqKs, VC.fillL, VC.putL, VC.mixF, VC.setAll, Nat.reduceAdd, Nat.reduceSub, Nat.reduceMul, if_true, if_false, ↓reduceIte, forall_const, implies_true, reduceCtorEq, ne_eq, Nat.reduceBNe, Nat.reduceBEq, IntKind.signed, Nat.reduceEqDiff, Nat.reduceLeDiff, Nat.reduceLT, eq_self, Int.reduceEq, Int.reduceLT, Int.reduceLE, Int.reduceAdd, Int.reduceSub, VC.regC_nil, VC.regC_cons, VC.regCK_eq, VC.callQ, VC.tailQ, VC.goCall, VC.chStep]
  refine ⟨f1, ?_⟩
  have hH1 := (hH0.st_add (o := oBox wa.heap.size z5) f3 f2 (fun g hg => by cases hg; exact Nat.le_refl _)).hp
  have hB1 := hB0.trans (f3.mono hH0.base)
  clear f1
  generalize stW (wa.alloc (.cells #[nilS, nilS, nilS, nilS, .bool false] 56)) ⟨wa.heap.size, 0, none⟩ 0 z5 = wb at hH1 hB1 ⊢
  clear f2 f3
  generalize wa.heap.size = ob at hH1 ⊢
  subst hQ
  simp -dsimp (maxSteps := 2000000) only [Fa.F25, hnn, VC.Now, VC.vc, VC.lib, VC.mapN_drewN, VC.mapB_drewN, VC.regQ, VC.loopK, VC.reg, VC.opP, VC.opS, VC.opZ, VC.nomulB, VC.pv, VC.thenF, VC.blkF, VC.retF, VC.resV, VC.oneV, VC.evo, VC.bin, VC.binI, VC.cmpI, VC.arithI, VC.ldv, VC.slv, VC.pickP, VC.holds, VC.chainOf, VC.look, VC.junk, VC.put, VC.eff, VC.callee, VC.pureB, VC.rdK, VC.rdKs, VC.okKs, VC.eqKs, VC.fillL, VC.putL, VC.stW, VC.stOK, VC.mixF, VC.setAll, Nat.reduceAdd, Nat.reduceSub, Nat.reduceMul, if_true, if_false, ↓reduceIte, forall_const, implies_true, reduceCtorEq, ne_eq, Nat.reduceBNe, Nat.reduceBEq, IntKind.signed, Nat.reduceEqDiff, Nat.reduceLeDiff, Nat.reduceLT, eq_self, Int.reduceEq, Int.reduceLT, Int.reduceLE, Int.reduceAdd, Int.reduceSub, VC.regC_nil, VC.regC_cons, VC.regCK_eq, VC.callQ, VC.tailQ, VC.goCall, VC.chStep]
  refine ⟨fits_i64 (by omega) (by omega), ?_⟩
  refine OPW_makeK (n := n * n) (base := 0) rfl Fa.apI158 rfl rfl rfl rfl (by omega) (by omega) (Nat.zero_le _) fun w4 ho4 hg4 => ?_
  have hB4 : Below wb.heap.size wb w4 := (Below.refl _ _).grown hg4 (Nat.le_refl _) fun k hk => by cases hk
  have hl4 : wb.heap.size < w4.heap.size := (ho4.lt (g := wb.heap.size) rfl).2
  have hRl := lin_made (B := 0) hB4 rfl ho4 hl4
  have hH2 := (hH1.st_add (o := oRecs wb.heap.size (n * n) 3 (linL (fun _ => lin0) fun _ => nilS)) hB4 hRl (fun g hg => by cases hg; exact Nat.le_refl _)).hp
  have hB2 := hB1.trans (hB4.mono hH1.base)
  rw [VC.Now, VC.seqK_eq]
  clear ho4 hg4 hRl hl4 hB4 hH1 hB1 hH0 hB0
  generalize wb.heap.size = gl at hH2 ⊢
  simp -dsimp (maxSteps := 2000000) only [Fa.F25, VC.Now, VC.vc, VC.lib, VC.mapN_drewN, VC.mapB_drewN, VC.regQ, VC.loopK, VC.reg, VC.opP, VC.opS, VC.opZ, VC.nomulB, VC.pv, VC.thenF, VC.blkF, VC.retF, VC.resV, VC.oneV, VC.evo, VC.bin, VC.binI, VC.cmpI, VC.arithI, VC.ldv, VC.slv, VC.pickP, VC.holds, VC.chainOf, VC.look, VC.junk, VC.put, VC.eff, VC.callee, VC.pureB, VC.rdK, VC.rdKs, VC.okKs, VC.eqKs, VC.fillL, VC.putL, VC.stW, VC.stOK, VC.mixF, VC.setAll, Nat.reduceAdd, Nat.reduceSub, Nat.reduceMul, if_true, if_false, ↓reduceIte, forall_const, implies_true, reduceCtorEq, ne_eq, Nat.reduceBNe, Nat.reduceBEq, IntKind.signed, Nat.reduceEqDiff, Nat.reduceLeDiff, Nat.reduceLT, eq_self, Int.reduceEq, Int.reduceLT, Int.reduceLE, Int.reduceAdd, Int.reduceSub, VC.regC_nil, VC.regC_cons, VC.regCK_eq, VC.callQ, VC.tailQ, VC.goCall, VC.chStep]
  have hH3 : Hp rb [oOwn 3 1 0 nilS ((List.range 0).map fun i => iV (m i)), oOwn 3 1 0 nilS ((List.range 0).map fun _ => iV (-1)), oBox ob z5, oRecs gl (n * n) 3 (linL (fun _ => lin0) fun _ => nilS), oBox rb z5] w4 := by
    have h9 := hH2.perm (L' := [oBox ob z5, oRecs gl (n * n) 3 (linL (fun _ => lin0) fun _ => nilS), oBox rb z5]) (List.Perm.swap _ _ _)
    exact ((h9.st_add (o := oOwn 3 1 0 nilS []) (Below.refl _ _) (OwnK.nil _ _ _ _) (fun g hg => by cases hg)).hp.st_add (o := oOwn 3 1 0 nilS []) (Below.refl _ _) (OwnK.nil _ _ _ _) (fun g hg => by cases hg)).hp
  refine loop_slots Fa.mix [27] [9, 28, 29, 30, 31, 32, 33, 34, 35, 36, 37, 38, 39, 40, 41, 42] (fun mm vs wx => ∃ (k : Nat) (mv ov : Value), k + mm = n ∧ vs = [.int .i64 k] ∧ Below rb w wx ∧ Hp rb [oOwn 3 1 k mv ((List.range k).map fun i => iV (m i)), oOwn 3 1 k ov ((List.range k).map fun _ => iV (-1)), oBox ob [nilS, mv, ov, nilS, .bool false], oRecs gl (n * n) 3 (linL (fun _ => lin0) fun _ => nilS), oBox rb z5] wx) n (by kernel_rfl) rfl
    ⟨0, nilS, nilS, by omega, rfl, hB2, hH3⟩ ?_
  clear hH3 hB2 hH2
  rintro mm vs u2 wx ⟨k, mv, ov, hkm, rfl, hBx, hH⟩
  by_cases hk : k < n
  · have e7 : ((k : Int) < n) = True := eq_true (by omega)
    obtain ⟨b, o, rfl, hb0, hc3⟩ := (hv.below (by rw [hrb]; exact hBx)) (by omega)
    have s0 := hc3 k hk 0 _ rfl
    simp only [Nat.mul_one, Nat.add_zero] at s0
    obtain ⟨Aw, cw, rfl, _⟩ := id (hH.get 0 rfl : OwnK wx 0 3 1 k mv _)
    obtain ⟨Ab, cb, rfl, _⟩ := id (hH.get 1 rfl : OwnK wx 0 3 1 k ov _)
    have bo : Box wx ob [nilS, .slice Aw k cw, .slice Ab k cb, nilS, .bool false] := hH.get 2 rfl
    have m1 := bo.at (i := 1) rfl
    have hol := bo.1
    simp -dsimp (maxSteps := 2000000) only [Fa.F25, e7, rdI_of s0, s0, hb0, rdSA_of m1, rdSN_of m1, rdSC_of m1, m1, hol, Int.toNat_natCast, VC.Now, VC.vc, VC.lib, VC.mapN_drewN, VC.mapB_drewN, VC.regQ, VC.loopK, VC.reg, VC.opP, VC.opS, VC.opZ, VC.nomulB, VC.pv, VC.thenF, VC.blkF, VC.retF, VC.resV, VC.oneV, VC.evo, VC.bin, VC.binI, VC.cmpI, VC.arithI, VC.ldv, VC.slv, VC.pickP, VC.holds, VC.chainOf, VC.look, VC.junk, VC.put, VC.eff, VC.callee, VC.pureB, VC.rdK, VC.rdKs, VC.okKs, VC.eqKs, VC.fillL, VC.putL, VC.stW, VC.stOK, VC.mixF, VC.setAll, Nat.reduceAdd, Nat.reduceSub, Nat.reduceMul, if_true, if_false, ↓reduceIte, forall_const, implies_true, reduceCtorEq, ne_eq, Nat.reduceBNe, Nat.reduceBEq, IntKind.signed, Nat.reduceEqDiff, Nat.reduceLeDiff, Nat.reduceLT, eq_self, Int.reduceEq, Int.reduceLT, Int.reduceLE, Int.reduceAdd, Int.reduceSub, VC.regC_nil, VC.regC_cons, VC.regCK_eq, VC.callQ, VC.tailQ, VC.goCall, VC.chStep]
    refine ⟨by omega, ?_⟩
    refine OPW_appK (v := .slice Aw k cw) (us := [iV (m k)]) rfl Fa.apI23 rfl rfl rfl (by simp [Value.oneCell']) (hH.get 0 rfl) (Nat.zero_le _) (by omega) (by decide) fun v5 w5 ho5 hg5 hst5 => ?_
    rw [show ((List.range k).map fun i => iV (m i)) ++ [iV (m k)] = (List.range (k + 1)).map fun i => iV (m i) by rw [List.range_succ, List.map_append]; rfl] at ho5
    obtain ⟨⟨r1, r2⟩, st6⟩ := hH.growField 2 0 rfl rfl (by decide) ho5 hg5 hst5 1 (by show 1 < 5; omega)
    obtain ⟨A5, c5, rfl, _⟩ := id ho5
    have hl5 : ob < w5.heap.size := by simpa using (st6.hp.get 2 rfl : Box _ ob _).1
    have hH6 := st6.hp
    have bo6 : Box _ ob [nilS, .slice A5 (k + 1) c5, .slice Ab k cb, nilS, .bool false] := hH6.get 2 rfl
    have m2 := bo6.at (i := 2) rfl
    have hol6 := bo6.1
    rw [VC.Now, VC.seqK_eq]
    simp -dsimp (maxSteps := 2000000) only [Fa.F25, r1, r2, hl5, rdSA_of m2, rdSN_of m2, rdSC_of m2, m2, hol6, VC.Now, VC.vc, VC.lib, VC.mapN_drewN, VC.mapB_drewN, VC.regQ, VC.loopK, VC.reg, VC.opP, VC.opS, VC.opZ, VC.nomulB, VC.pv, VC.thenF, VC.blkF, VC.retF, VC.resV, VC.oneV, VC.evo, VC.bin, VC.binI, VC.cmpI, VC.arithI, VC.ldv, VC.slv, VC.pickP, VC.holds, VC.chainOf, VC.look, VC.junk, VC.put, VC.eff, VC.callee, VC.pureB, VC.rdK, VC.rdKs, VC.okKs, VC.eqKs, VC.fillL, VC.putL, VC.stW, VC.stOK, VC.mixF, VC.setAll, Nat.reduceAdd, Nat.reduceSub, Nat.reduceMul, if_true, if_false, ↓reduceIte, forall_const, implies_true, reduceCtorEq, ne_eq, Nat.reduceBNe, Nat.reduceBEq, IntKind.signed, Nat.reduceEqDiff, Nat.reduceLeDiff, Nat.reduceLT, eq_self, Int.reduceEq, Int.reduceLT, Int.reduceLE, Int.reduceAdd, Int.reduceSub, VC.regC_nil, VC.regC_cons, VC.regCK_eq, VC.callQ, VC.tailQ, VC.goCall, VC.chStep]
    generalize w5.setCell ⟨ob, 1, none⟩ (.slice A5 (k + 1) c5) = w6 at st6 hH6 bo6 m2 hol6 ⊢
    refine OPW_appK (v := .slice Ab k cb) (us := [iV (-1)]) rfl Fa.apI23 rfl rfl rfl (by simp [Value.oneCell']) (hH6.get 1 rfl) (Nat.zero_le _) (by omega) (by decide) fun v7 w7 ho7 hg7 hst7 => ?_
    rw [show ((List.range k).map fun _ => iV (-1)) ++ [iV (-1)] = (List.range (k + 1)).map fun _ => iV (-1) by rw [List.range_succ, List.map_append]; rfl] at ho7
    obtain ⟨⟨q1, q2⟩, st8⟩ := hH6.growField 2 1 rfl rfl (by decide) ho7 hg7 hst7 2 (by show 2 < 5; omega)
    obtain ⟨A7, c7, rfl, _⟩ := id ho7
    have hl7 : ob < w7.heap.size := by simpa using (st8.hp.get 2 rfl : Box _ ob _).1
    rw [VC.Now, VC.seqK_eq]
    simp -dsimp (maxSteps := 2000000) only [Fa.F25, q1, q2, hl7, VC.Now, VC.vc, VC.lib, VC.mapN_drewN, VC.mapB_drewN, VC.regQ, VC.loopK, VC.reg, VC.opP, VC.opS, VC.opZ, VC.nomulB, VC.pv, VC.thenF, VC.blkF, VC.retF, VC.resV, VC.oneV, VC.evo, VC.bin, VC.binI, VC.cmpI, VC.arithI, VC.ldv, VC.slv, VC.pickP, VC.holds, VC.chainOf, VC.look, VC.junk, VC.put, VC.eff, VC.callee, VC.pureB, VC.rdK, VC.rdKs, VC.okKs, VC.eqKs, VC.fillL, VC.putL, VC.stW, VC.stOK, VC.mixF, VC.setAll, Nat.reduceAdd, Nat.reduceSub, Nat.reduceMul, if_true, if_false, ↓reduceIte, forall_const, implies_true, reduceCtorEq, ne_eq, Nat.reduceBNe, Nat.reduceBEq, IntKind.signed, Nat.reduceEqDiff, Nat.reduceLeDiff, Nat.reduceLT, eq_self, Int.reduceEq, Int.reduceLT, Int.reduceLE, Int.reduceAdd, Int.reduceSub, VC.regC_nil, VC.regC_cons, VC.regCK_eq, VC.callQ, VC.tailQ, VC.goCall, VC.chStep]
    exact ⟨fits_i64_nat (by omega), SAME.intro (by kernel_rfl), mm - 1, by omega, k + 1, .slice A5 (k + 1) c5, .slice A7 (k + 1) c7, by omega, rfl, hBx.trans ((st6.trans st8).below hH), st8.hp⟩
  obtain rfl : k = n := by omega
  have e7 : ((k : Int) < k) = False := eq_false (by omega)
  obtain ⟨gm, cm, rfl, _, hgm⟩ := OwnK.form (hH.get 0 rfl : OwnK wx 0 3 1 k mv _) h1
  obtain ⟨go, co, rfl, _, hgo⟩ := OwnK.form (hH.get 1 rfl : OwnK wx 0 3 1 k ov _) h1
  have hH1 := hH.reword 0 rfl (o' := oBox gm ((List.range k).map fun i => iV (m i))) (Box.of_own (hH.get 0 rfl : OwnK wx 0 3 1 k (.slice (some ⟨gm, 0, none⟩) k cm) _) hgm) rfl
  have hH2 := hH1.reword 1 rfl (o' := oBox go ((List.range k).map fun _ => iV (-1))) (Box.of_own (hH1.get 1 rfl : OwnK wx 0 3 1 k (.slice (some ⟨go, 0, none⟩) k co) _) hgo) rfl
  have hH3 : Hp rb ([oOwn 24 1 0 nilS (ncodes k m g 0), oBox rb z5] ++ DObs k ⟨ob, gm, cm, go, co, gl⟩ (dOf k (nst k m g 0)) (fun _ => nilS) nilS nilS false) wx := by
    have h4 := hH2.free (M := oOwn 24 1 0 nilS (ncodes k m g 0) :: fam (k * k) (senF (dOf k (nst k m g 0)).lt fun _ => nilS)) (fun o ho => by
      rcases List.mem_cons.1 ho with rfl | ho
      · exact ⟨OwnK.nil _ _ _ _, rfl⟩
      · obtain ⟨i, _, rfl⟩ := List.mem_map.1 ho; exact ⟨OwnK.nil _ _ _ _, rfl⟩)
    refine h4.perm ?_
    show List.Perm (_ :: _ :: _ :: _ :: _ :: _ :: fam (k * k) (senF (dOf k (nst k m g 0)).lt fun _ => nilS)) (_ :: _ :: _ :: _ :: _ :: _ :: fam (k * k) (senF (dOf k (nst k m g 0)).lt fun _ => nilS))
    refine List.Perm.append_right (l₁ := [_, _, _, _, _, _]) (l₂ := [_, _, _, _, _, _]) _ ?_
    exact perm6 _ _ _ _ _ _
  clear hH hH1 hH2
  simp -dsimp (maxSteps := 2000000) only [Fa.F25, e7, VC.Now, VC.vc, VC.lib, VC.mapN_drewN, VC.mapB_drewN, VC.regQ, VC.loopK, VC.reg, VC.opP, VC.opS, VC.opZ, VC.nomulB, VC.pv, VC.thenF, VC.blkF, VC.retF, VC.resV, VC.oneV, VC.evo, VC.bin, VC.binI, VC.cmpI, VC.arithI, VC.ldv, VC.slv, VC.pickP, VC.holds, VC.chainOf, VC.look, VC.junk, VC.put, VC.eff, VC.callee, VC.pureB, VC.rdK, VC.rdKs, VC.okKs, VC.eqKs, VC.fillL, VC.putL, VC.stW, VC.stOK, VC.mixF, VC.setAll, Nat.reduceAdd, Nat.reduceSub, Nat.reduceMul, if_true, if_false, ↓reduceIte, forall_const, implies_true, reduceCtorEq, ne_eq, Nat.reduceBNe, Nat.reduceBEq, IntKind.signed, Nat.reduceEqDiff, Nat.reduceLeDiff, Nat.reduceLT, eq_self, Int.reduceEq, Int.reduceLT, Int.reduceLE, Int.reduceAdd, Int.reduceSub, VC.regC_nil, VC.regC_cons, VC.regCK_eq, VC.callQ, VC.tailQ, VC.goCall, VC.chStep]
  refine loop_slots Fa.mix [45] [11, 46, 47, 48, 49, 50, 51, 52, 53, 54, 55, 56, 57, 58] (fun mm vs wx => ∃ (t : Nat) (q : Nat → Value) (vc : Value), t + mm = len ∧ vs = [.int .i64 t] ∧ Below rb w wx ∧
      Hp rb ([oOwn 24 1 t vc (ncodes k m g t), oBox rb z5] ++ DObs k ⟨ob, gm, cm, go, co, gl⟩ (dOf k (nst k m g t)) q vc nilS false) wx) len (by kernel_rfl) rfl
      ⟨0, fun _ => nilS, nilS, by omega, rfl, hBx, hH3⟩ ?_
  clear hH3 hBx
  rintro mm vs u3 wx ⟨t, q, vc, hkm, rfl, hBx, hH⟩
  have hinv := nst_inv (n := k) (m := m) (g := g) hn hm t
  by_cases ht : t < len
  · obtain ⟨b, o, rfl, hb, hc⟩ := (hr.below (by rw [hrb]; exact hBx)) (by omega)
    have s0 := hc t ht 0 _ rfl
    have s1 := hc t ht 1 _ rfl
    have s2 := hc t ht 2 _ rfl
    have s3 := hc t ht 3 _ rfl
    simp only [Nat.add_zero] at s0
    have e8 : ((t : Int) < len) = True := eq_true (by omega)
    have hms : nst k m g (t + 1) = (nstep k (g t) (nst k m g t)).2 := rfl
    have hmc := ncodes_succ k m g t
    generalize nst k m g t = s at *
    generalize hgk : g t = c at *
    have hgft : fits .i64 c.n := by rw [← hgk]; exact hgf t
    obtain ⟨Ac, cc, ec, _⟩ := id (hH.get 0 rfl : OwnK wx 0 24 1 t vc _)
    simp -dsimp (maxSteps := 2000000) only [Fa.F25, e8, rdI_of s0, s0, rdI_of s1, s1, rdI_of s2, s2, rdI_of s3, s3, hb, Int.toNat_natCast, VC.Now, VC.vc, VC.lib, VC.mapN_drewN, VC.mapB_drewN, VC.regQ, VC.loopK, VC.reg, VC.opP, VC.opS, VC.opZ, VC.nomulB, VC.pv, VC.thenF, VC.blkF, VC.retF, VC.resV, VC.oneV, VC.evo, VC.bin, VC.binI, VC.cmpI, VC.arithI, VC.ldv, VC.slv, VC.pickP, VC.holds, VC.chainOf, VC.look, VC.junk, VC.put, VC.eff, VC.callee, VC.pureB, VC.rdK, VC.rdKs, VC.okKs, VC.eqKs, VC.fillL, VC.putL, VC.stW, VC.stOK, VC.mixF, VC.setAll, Nat.reduceAdd, Nat.reduceSub, Nat.reduceMul, if_true, if_false, ↓reduceIte, forall_const, implies_true, reduceCtorEq, ne_eq, Nat.reduceBNe, Nat.reduceBEq, IntKind.signed, Nat.reduceEqDiff, Nat.reduceLeDiff, Nat.reduceLT, eq_self, Int.reduceEq, Int.reduceLT, Int.reduceLE, Int.reduceAdd, Int.reduceSub, VC.regC_nil, VC.regC_cons, VC.regCK_eq, VC.callQ, VC.tailQ, VC.goCall, VC.chStep]
    refine ⟨by omega, ?_⟩
    have hsay : Box (wx.alloc (.cells (passL c).toArray 146)) wx.heap.size (passL c) := Box.new wx _ _
    have hBs : Below wx.heap.size wx (wx.alloc (.cells (passL c).toArray 146)) := (Below.refl _ _).alloc (Nat.le_refl _) _
    change WP _ _ _ _ _ _ (wx.alloc (.cells (passL c).toArray 146))
    generalize wx.alloc (.cells (passL c).toArray 146) = wy at hsay hBs ⊢
    have hHy := (hH.below hBs).perm (List.perm_append_comm)
    have hBy : Below rb w wy := hBx.trans (hBs.mono hH.base)
    have nsay : ¬ foot (DObs k ⟨ob, gm, cm, go, co, gl⟩ (dOf k s) q vc nilS false) wx.heap.size := fun hf => by have := ((hH.perm (List.perm_append_comm)).left.foot_lt hf).2; omega
    have nsc : vc.ownBlock ≠ some wx.heap.size := fun hf => by have := (hH.lt 0 rfl hf).2; omega
    generalize wx.heap.size = sb at hsay hBs nsay nsc ⊢
    have hby := hsay.1
    have z0 := hsay.at (i := 0) rfl
    have z1 := hsay.at (i := 1) rfl
    have z2 := hsay.at (i := 2) rfl
    have z3 := hsay.at (i := 3) rfl
    have hHz := hHy.perm (List.perm_append_comm)
    have y1 := (hHz.get 2 rfl : Box wy ob _).at (i := 0) rfl
    rw [ec] at y1
    have hwl := (hHz.get 2 rfl : Box wy ob _).1
    have hHd := hHy.drewN 1
    have ag0 : Agree (fun j => foot (DObs k ⟨ob, gm, cm, go, co, gl⟩ (dOf k s) q vc nilS false) j ∨ vc.ownBlock = some j) wy (wy.drewN 1) := Agree.of_below (below_drewN (Below.refl _ wy) 1)
    refine WP_held 9 (fun j => foot (DObs k ⟨ob, gm, cm, go, co, gl⟩ (dOf k s) q vc nilS false) j ∨ vc.ownBlock = some j) (.take 0 (.take 2 (.take 3 (.take 4 (.two 1 (.one 5 (.one 6 (.one 7 (.take 8 (.one 9 .done))))) 5 (.two 1 (.one 6 (.one 7 (.take 8 (.one 9 .done)))) 6 (.one 1 (.one 7 (.take 8 (.one 9 .done)))))))))) Fa.mix (by kernel_rfl) rfl ?_
    simp -dsimp (maxSteps := 2000000) only [VC.heldF_done, VC.heldF_last, VC.planF_done, VC.planF_take, VC.planF_one, VC.planF_two, VC.planK_eq, VC.heldF_take, VC.heldF_one, VC.heldF_two, VC.heldF_twoL, VC.heldK_eq, VC.okRd, Fa.F25, rdI_of z0, z0, rdI_of z1, z1, rdI_of z2, z2, rdI_of z3, z3, rdSA_of y1, rdSN_of y1, rdSC_of y1, y1, hwl, VC.Now, VC.vc, VC.lib, VC.mapN_drewN, VC.mapB_drewN, VC.regQ, VC.loopK, VC.reg, VC.opP, VC.opS, VC.opZ, VC.nomulB, VC.pv, VC.thenF, VC.blkF, VC.retF, VC.resV, VC.oneV, VC.evo, VC.bin, VC.binI, VC.cmpI, VC.arithI, VC.ldv, VC.slv, VC.pickP, VC.holds, VC.chainOf, VC.look, VC.junk, VC.put, VC.eff, VC.callee, VC.pureB, VC.rdK, VC.rdKs, VC.okKs, VC.eqKs, VC.fillL, VC.putL, VC.stW, VC.stOK, VC.mixF, VC.setAll, Nat.reduceAdd, Nat.reduceSub, Nat.reduceMul, if_true, if_false, ↓reduceIte, forall_const, implies_true, reduceCtorEq, ne_eq, Nat.reduceBNe, Nat.reduceBEq, IntKind.signed, Nat.reduceEqDiff, Nat.reduceLeDiff, Nat.reduceLT, eq_self, Int.reduceEq, Int.reduceLT, Int.reduceLE, Int.reduceAdd, Int.reduceSub, VC.regC_nil, VC.regC_cons, VC.regCK_eq, VC.callQ, VC.tailQ, VC.goCall, VC.chStep]
    refine ⟨⟨hby, fun h => h.elim nsay nsc⟩, ⟨ag0, ?_⟩, ?_⟩
    ·
      refine CALL_by (pass_any (n := k) (a := ⟨ob, gm, cm, go, co, gl⟩) (p := dOf k s) (sv := q) (vc := vc) (bv := nilS) (dn := false) hHd.left (hinv.db (by omega)) hn c hgft) fun e w4 hp => ⟨_, hp.1, ?_⟩
      obtain ⟨_, q', st4⟩ := hp
      obtain ⟨hres1, hres2⟩ := dpass_rel (n := k) (s := s) (c := c)
      replace st4 := hres2.st st4
      have st5 := (st4.part hHd).perm List.perm_append_comm List.perm_append_comm
      have ag4 := ag0.trans (st4.agree.mono fun j _ hj => Or.inl hj)
      have hH4 := st5.hp
      have y2 := (hH4.get 2 rfl : Box w4 ob _).at (i := 0) rfl
      have hw4 := (hH4.get 2 rfl : Box w4 ob _).1
      rw [ec] at y2
      simp -dsimp (maxSteps := 2000000) only [VC.heldF_done, VC.heldF_last, VC.planF_done, VC.planF_take, VC.planF_one, VC.planF_two, VC.planK_eq, VC.heldF_take, VC.heldF_one, VC.heldF_two, VC.heldF_twoL, VC.heldK_eq, VC.okRd, Fa.F25, rdSA_of y1, rdSN_of y1, rdSC_of y1, y1, hwl, hw4, rdSA_of y2, rdSN_of y2, rdSC_of y2, y2, VC.Now, VC.vc, VC.lib, VC.mapN_drewN, VC.mapB_drewN, VC.regQ, VC.loopK, VC.reg, VC.opP, VC.opS, VC.opZ, VC.nomulB, VC.pv, VC.thenF, VC.blkF, VC.retF, VC.resV, VC.oneV, VC.evo, VC.bin, VC.binI, VC.cmpI, VC.arithI, VC.ldv, VC.slv, VC.pickP, VC.holds, VC.chainOf, VC.look, VC.junk, VC.put, VC.eff, VC.callee, VC.pureB, VC.rdK, VC.rdKs, VC.okKs, VC.eqKs, VC.fillL, VC.putL, VC.stW, VC.stOK, VC.mixF, VC.setAll, Nat.reduceAdd, Nat.reduceSub, Nat.reduceMul, if_true, if_false, ↓reduceIte, forall_const, implies_true, reduceCtorEq, ne_eq, Nat.reduceBNe, Nat.reduceBEq, IntKind.signed, Nat.reduceEqDiff, Nat.reduceLeDiff, Nat.reduceLT, eq_self, Int.reduceEq, Int.reduceLT, Int.reduceLE, Int.reduceAdd, Int.reduceSub, VC.regC_nil, VC.regC_cons, VC.regCK_eq, VC.callQ, VC.tailQ, VC.goCall, VC.chStep]
      refine ⟨ag4, ag4.trans (Agree.of_below ((Below.refl _ _).alloc (Nat.le_refl _) _)), ?_⟩
      refine OPW_appK (v := vc) rfl Fa.apI33 (by rw [ec]; rfl) rfl rfl (by simp [Value.oneCell']) (hH4.get 0 rfl) (Nat.zero_le _) (by omega) (by decide) fun v5 w5 ho5 hg5 hst5 => ?_
      rw [hres1, ← hmc] at ho5
      obtain ⟨⟨r1, r2⟩, st6⟩ := hH4.growField 2 0 rfl rfl (by decide) ho5 hg5 hst5 0 (by show 0 < 5; omega)
      obtain ⟨A5, c5, rfl, _⟩ := id ho5
      have hw6 : ob < w5.heap.size := by simpa using (st6.hp.get 2 rfl : Box _ ob _).1
      simp -dsimp (maxSteps := 2000000) only [VC.heldF_done, VC.heldF_last, VC.planF_done, VC.planF_take, VC.planF_one, VC.planF_two, VC.planK_eq, VC.heldF_take, VC.heldF_one, VC.heldF_two, VC.heldF_twoL, VC.heldK_eq, VC.okRd, Fa.F25, hw6, hw4, hwl, VC.Now, VC.vc, VC.lib, VC.mapN_drewN, VC.mapB_drewN, VC.regQ, VC.loopK, VC.reg, VC.opP, VC.opS, VC.opZ, VC.nomulB, VC.pv, VC.thenF, VC.blkF, VC.retF, VC.resV, VC.oneV, VC.evo, VC.bin, VC.binI, VC.cmpI, VC.arithI, VC.ldv, VC.slv, VC.pickP, VC.holds, VC.chainOf, VC.look, VC.junk, VC.put, VC.eff, VC.callee, VC.pureB, VC.rdK, VC.rdKs, VC.okKs, VC.eqKs, VC.fillL, VC.putL, VC.stW, VC.stOK, VC.mixF, VC.setAll, Nat.reduceAdd, Nat.reduceSub, Nat.reduceMul, if_true, if_false, ↓reduceIte, forall_const, implies_true, reduceCtorEq, ne_eq, Nat.reduceBNe, Nat.reduceBEq, IntKind.signed, Nat.reduceEqDiff, Nat.reduceLeDiff, Nat.reduceLT, eq_self, Int.reduceEq, Int.reduceLT, Int.reduceLE, Int.reduceAdd, Int.reduceSub, VC.regC_nil, VC.regC_cons, VC.regCK_eq, VC.callQ, VC.tailQ, VC.goCall, VC.chStep]
      have ag6 := ag4.trans (Agree.grown hg5 fun j hj => Or.inr hj)
      have hBw : Below rb w (w5.setCell ⟨ob, 0, none⟩ (.slice A5 (t + 1) c5)) := hBy.trans ((below_drewN (Below.refl rb wy) 1).trans ((st5.trans st6).below (hHd.perm List.perm_append_comm)))
      refine ⟨ag6, ⟨r1, r2⟩, fits_i64_nat (by omega), SAME.intro (by kernel_rfl), mm - 1, by omega, t + 1, q', .slice A5 (t + 1) c5, by omega, rfl, hBw, ?_⟩
      rw [hms]
      exact st6.hp
    ·
      refine CALL_by (pass_any (n := k) (a := ⟨ob, gm, cm, go, co, gl⟩) (p := dOf k s) (sv := q) (vc := vc) (bv := nilS) (dn := false) hHd.left (hinv.db (by omega)) hn c hgft) fun e w4 hp => ⟨_, hp.1, ?_⟩
      obtain ⟨_, q', st4⟩ := hp
      obtain ⟨hres1, hres2⟩ := dpass_rel (n := k) (s := s) (c := c)
      replace st4 := hres2.st st4
      have st5 := (st4.part hHd).perm List.perm_append_comm List.perm_append_comm
      have ag4 := ag0.trans (st4.agree.mono fun j _ hj => Or.inl hj)
      have hH4 := st5.hp
      have y2 := (hH4.get 2 rfl : Box w4 ob _).at (i := 0) rfl
      have hw4 := (hH4.get 2 rfl : Box w4 ob _).1
      rw [ec] at y2
      simp -dsimp (maxSteps := 2000000) only [VC.heldF_done, VC.heldF_last, VC.planF_done, VC.planF_take, VC.planF_one, VC.planF_two, VC.planK_eq, VC.heldF_take, VC.heldF_one, VC.heldF_two, VC.heldF_twoL, VC.heldK_eq, VC.okRd, Fa.F25, rdSA_of y1, rdSN_of y1, rdSC_of y1, y1, hwl, hw4, rdSA_of y2, rdSN_of y2, rdSC_of y2, y2, VC.Now, VC.vc, VC.lib, VC.mapN_drewN, VC.mapB_drewN, VC.regQ, VC.loopK, VC.reg, VC.opP, VC.opS, VC.opZ, VC.nomulB, VC.pv, VC.thenF, VC.blkF, VC.retF, VC.resV, VC.oneV, VC.evo, VC.bin, VC.binI, VC.cmpI, VC.arithI, VC.ldv, VC.slv, VC.pickP, VC.holds, VC.chainOf, VC.look, VC.junk, VC.put, VC.eff, VC.callee, VC.pureB, VC.rdK, VC.rdKs, VC.okKs, VC.eqKs, VC.fillL, VC.putL, VC.stW, VC.stOK, VC.mixF, VC.setAll, Nat.reduceAdd, Nat.reduceSub, Nat.reduceMul, if_true, if_false, ↓reduceIte, forall_const, implies_true, reduceCtorEq, ne_eq, Nat.reduceBNe, Nat.reduceBEq, IntKind.signed, Nat.reduceEqDiff, Nat.reduceLeDiff, Nat.reduceLT, eq_self, Int.reduceEq, Int.reduceLT, Int.reduceLE, Int.reduceAdd, Int.reduceSub, VC.regC_nil, VC.regC_cons, VC.regCK_eq, VC.callQ, VC.tailQ, VC.goCall, VC.chStep]
      have agA := ag4.trans (Agree.of_below (X := fun j => foot (DObs k ⟨ob, gm, cm, go, co, gl⟩ (dOf k s) q vc nilS false) j ∨ vc.ownBlock = some j) ((Below.refl w4.heap.size w4).alloc (Nat.le_refl _) (.cells #[Value.int .i64 (dpass k c (dOf k s)).1] 24)))
      refine ⟨ag4, ⟨ag4, agA, ?_⟩, agA, agA, ?_⟩
      ·
        refine OPW_appK (v := vc) rfl Fa.apI33 (by rw [ec]; rfl) rfl rfl (by simp [Value.oneCell']) (hH4.get 0 rfl) (Nat.zero_le _) (by omega) (by decide) fun v5 w5 ho5 hg5 hst5 => ?_
        rw [hres1, ← hmc] at ho5
        obtain ⟨⟨r1, r2⟩, st6⟩ := hH4.growField 2 0 rfl rfl (by decide) ho5 hg5 hst5 0 (by show 0 < 5; omega)
        obtain ⟨A5, c5, rfl, _⟩ := id ho5
        have hw6 : ob < w5.heap.size := by simpa using (st6.hp.get 2 rfl : Box _ ob _).1
        simp -dsimp (maxSteps := 2000000) only [VC.heldF_done, VC.heldF_last, VC.planF_done, VC.planF_take, VC.planF_one, VC.planF_two, VC.planK_eq, VC.heldF_take, VC.heldF_one, VC.heldF_two, VC.heldF_twoL, VC.heldK_eq, VC.okRd, Fa.F25, hw6, hw4, hwl, VC.Now, VC.vc, VC.lib, VC.mapN_drewN, VC.mapB_drewN, VC.regQ, VC.loopK, VC.reg, VC.opP, VC.opS, VC.opZ, VC.nomulB, VC.pv, VC.thenF, VC.blkF, VC.retF, VC.resV, VC.oneV, VC.evo, VC.bin, VC.binI, VC.cmpI, VC.arithI, VC.ldv, VC.slv, VC.pickP, VC.holds, VC.chainOf, VC.look, VC.junk, VC.put, VC.eff, VC.callee, VC.pureB, VC.rdK, VC.rdKs, VC.okKs, VC.eqKs, VC.fillL, VC.putL, VC.stW, VC.stOK, VC.mixF, VC.setAll, Nat.reduceAdd, Nat.reduceSub, Nat.reduceMul, if_true, if_false, ↓reduceIte, forall_const, implies_true, reduceCtorEq, ne_eq, Nat.reduceBNe, Nat.reduceBEq, IntKind.signed, Nat.reduceEqDiff, Nat.reduceLeDiff, Nat.reduceLT, eq_self, Int.reduceEq, Int.reduceLT, Int.reduceLE, Int.reduceAdd, Int.reduceSub, VC.regC_nil, VC.regC_cons, VC.regCK_eq, VC.callQ, VC.tailQ, VC.goCall, VC.chStep]
        have ag6 := ag4.trans (Agree.grown hg5 fun j hj => Or.inr hj)
        have hBw : Below rb w (w5.setCell ⟨ob, 0, none⟩ (.slice A5 (t + 1) c5)) := hBy.trans ((below_drewN (Below.refl rb wy) 1).trans ((st5.trans st6).below (hHd.perm List.perm_append_comm)))
        refine ⟨ag6, ⟨r1, r2⟩, fits_i64_nat (by omega), SAME.intro (by kernel_rfl), mm - 1, by omega, t + 1, q', .slice A5 (t + 1) c5, by omega, rfl, hBw, ?_⟩
        rw [hms]
        exact st6.hp
      ·
        refine OPW_appK (v := vc) rfl Fa.apI33 (by rw [ec]; rfl) rfl rfl (by simp [Value.oneCell']) (hH4.get 0 rfl) (Nat.zero_le _) (by omega) (by decide) fun v5 w5 ho5 hg5 hst5 => ?_
        rw [hres1, ← hmc] at ho5
        obtain ⟨⟨r1, r2⟩, st6⟩ := hH4.growField 2 0 rfl rfl (by decide) ho5 hg5 hst5 0 (by show 0 < 5; omega)
        obtain ⟨A5, c5, rfl, _⟩ := id ho5
        have hw6 : ob < w5.heap.size := by simpa using (st6.hp.get 2 rfl : Box _ ob _).1
        simp -dsimp (maxSteps := 2000000) only [VC.heldF_done, VC.heldF_last, VC.planF_done, VC.planF_take, VC.planF_one, VC.planF_two, VC.planK_eq, VC.heldF_take, VC.heldF_one, VC.heldF_two, VC.heldF_twoL, VC.heldK_eq, VC.okRd, Fa.F25, hw6, hw4, hwl, VC.Now, VC.vc, VC.lib, VC.mapN_drewN, VC.mapB_drewN, VC.regQ, VC.loopK, VC.reg, VC.opP, VC.opS, VC.opZ, VC.nomulB, VC.pv, VC.thenF, VC.blkF, VC.retF, VC.resV, VC.oneV, VC.evo, VC.bin, VC.binI, VC.cmpI, VC.arithI, VC.ldv, VC.slv, VC.pickP, VC.holds, VC.chainOf, VC.look, VC.junk, VC.put, VC.eff, VC.callee, VC.pureB, VC.rdK, VC.rdKs, VC.okKs, VC.eqKs, VC.fillL, VC.putL, VC.stW, VC.stOK, VC.mixF, VC.setAll, Nat.reduceAdd, Nat.reduceSub, Nat.reduceMul, if_true, if_false, ↓reduceIte, forall_const, implies_true, reduceCtorEq, ne_eq, Nat.reduceBNe, Nat.reduceBEq, IntKind.signed, Nat.reduceEqDiff, Nat.reduceLeDiff, Nat.reduceLT, eq_self, Int.reduceEq, Int.reduceLT, Int.reduceLE, Int.reduceAdd, Int.reduceSub, VC.regC_nil, VC.regC_cons, VC.regCK_eq, VC.callQ, VC.tailQ, VC.goCall, VC.chStep]
        have ag6 := ag4.trans (Agree.grown hg5 fun j hj => Or.inr hj)
        have hBw : Below rb w (w5.setCell ⟨ob, 0, none⟩ (.slice A5 (t + 1) c5)) := hBy.trans ((below_drewN (Below.refl rb wy) 1).trans ((st5.trans st6).below (hHd.perm List.perm_append_comm)))
        refine ⟨ag6, ⟨r1, r2⟩, fits_i64_nat (by omega), SAME.intro (by kernel_rfl), mm - 1, by omega, t + 1, q', .slice A5 (t + 1) c5, by omega, rfl, hBw, ?_⟩
        rw [hms]
        exact st6.hp
  obtain rfl : t = len := by omega
  clear hkm
  rename_i y1 y2 y3 y4
  clear hr hgf ht hnn e7 hv hk hgm hgo y3 y4
  clear hkm
  revert A c0 A2 cap m g w wa rb wb ob w4 gl y1 u2 y2 k gm cm go co mm u3 wx t q vc
  exact HH.1
end Go.Proofs.Ytelfmhiaafkimaa
