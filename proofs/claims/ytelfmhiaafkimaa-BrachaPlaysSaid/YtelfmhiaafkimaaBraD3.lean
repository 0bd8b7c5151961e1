/- One word for all, the document: a message comes. -/
import Derived.Test.YtelfmhiaafkimaaBraD1
import Derived.Test.YtelfmhiaafkimaaBraD2
import Derived.Test.YtelfmhiaafkimaaBra3
import Derived.Test.YtelfmhiaafkimaaRefBits
namespace Go.Proofs.Ytelfmhiaafkimaa
open Go Go.RowKit Go.VC
set_option linter.unusedSimpArgs false
set_option linter.unusedVariables false
section
variable {B n f liars sender sb t : Nat} {s : BS} {va vc : Value} {w : World}
/-- A message of the list is set. -/
theorem so_set (h : Hp B (SObs n f liars sender sb s va vc) w) {k g c : Nat} (hk : k < s.all.length) (e : va = .slice (some ⟨g, 0, none⟩) s.all.length c) :
    St B (SObs n f liars sender sb s va vc) w (SObs n f liars sender sb { s with all := s.all.set k (arr (s.all.getD k note0)) } va vc) (w.setCell ⟨g, k * 5 + 4, none⟩ (.bool true)) := by
  subst e
  have st := h.setOwn 1 rfl (k * 5 + 4) (.bool true)
  have e1 : s.all.getD k note0 = s.all[k] := by simp [List.getD, hk]
  rw [flat_setK noteL_len hk (j := 4) (y := arr (s.all.getD k note0)) (by omega) (by rw [e1]; rfl)] at st
  have e2 : (s.all.set k (arr (s.all.getD k note0))).length = s.all.length := List.length_set ..
  show St B _ w (oBox sb _ :: oOwn 280 5 (s.all.set k (arr (s.all.getD k note0))).length _ ((s.all.set k (arr (s.all.getD k note0))).flatMap noteL) :: _) _
  rw [e2]
  exact st
theorem toL_come {n f liars : Nat} {sender : Int} {t : Nat} {s : BS} (h : BOK n f liars sender t s) {k : Nat} (hk : k < s.all.length) (hc : (s.all.getD k note0).come = false) (j : Nat) :
    toL { s with all := s.all.set k (arr (s.all.getD k note0)), came := s.came ++ [k] } j = toL s j ++ if (s.all.getD k note0).to = (j : Int) then [arr (s.all.getD k note0)] else [] := by
  have hnot : ∀ j ∈ s.came, k ≠ j := fun j hj e => by have := (h.cin j hj).2; rw [← e, hc] at this; cases this
  unfold toL
  show ((s.came ++ [k]).map fun q => (s.all.set k (arr (s.all.getD k note0))).getD q note0).filter (fun x => decide (x.to = (j : Int))) = _
  rw [List.map_append, List.filter_append, List.map_congr_left fun q hq => getD_set_ne (hnot q hq)]
  congr 1
  simp only [List.map_cons, List.map_nil, getD_set_self hk]
  by_cases e : (s.all.getD k note0).to = (j : Int)
  · rw [if_pos e, List.filter_cons_of_pos (by show decide ((s.all.getD k note0).to = (j : Int)) = true; rw [e]; simp)]; rfl
  · rw [if_neg e, List.filter_cons_of_neg (by show ¬ decide ((s.all.getD k note0).to = (j : Int)) = true; simpa using e)]; rfl
theorem toL_ok {s : BS} (h : ∀ k ∈ s.came, k < s.all.length) (hn : ∀ x ∈ s.all, NoteOK n x) (i : Nat) : ∀ x ∈ toL s i, NoteOK n x := by
  intro x hx
  unfold toL at hx
  obtain ⟨h1, _⟩ := List.mem_filter.1 hx
  obtain ⟨k, hk, rfl⟩ := List.mem_map.1 h1
  exact hn _ (mem_getD (h k hk))
theorem toL_le (s : BS) (i : Nat) : (toL s i).length ≤ s.came.length := by rw [← toK_all]; exact toK_le ..
set_option maxRecDepth 8000 in
set_option maxHeartbeats 8000000 in
theorem dcome_any (h : Hp B (SObs n f liars sender sb s va vc) w) (hok : BOK n f liars sender t s) (hn : n ≤ 7) (hf : f ≤ 2) (ht : t ≤ 130) (hl : liars < 4294967296) {k : Nat} (hk : k < s.all.length) (hc : (s.all.getD k note0).come = false) :
    Calls Try.prog 111 #[ptrV sb, iV k] w fun e w' => e = .returned (.tuple #[]) ∧ ∃ va' vc', St B (SObs n f liars sender sb s va vc) w (SObs n f liars sender sb (bcome n f liars sender k s) va' vc') w' := by
  have hx0 := hok.note _ (mem_getD (d := note0) hk)
  have hall := hok.all_le hn
  have hcl : s.came.length ≤ s.all.length := by rw [hok.many]; exact List.countP_le_length
  obtain ⟨g, c, e, hg, hcell, hsoft⟩ := so_all h hk
  have bs : Box w sb (spreC n f liars sender va vc s.started) := h.get 0 rfl
  have b4 := bs.at (i := 4) rfl
  rw [e] at b4
  have hsl := bs.1
  have m1 := hcell 1 _ rfl
  obtain ⟨i, hi⟩ : ∃ i : Nat, (s.all.getD k note0).to = (i : Int) := ⟨(s.all.getD k note0).to.toNat, by have := hx0.to; omega⟩
  have hin : i < n := by have := hx0.to; omega
  rw [hi] at m1
  refine calls_vc (rs := []) Fa.mix Try.func111 rfl Try.ntmps111 rfl (by kernel_rfl) (Nat.le_of_ble_eq_true rfl) ?_
  (repeat rw [vc_seq]); refine vc_plain _ fun Q hQ => ?_; simp -dsimp (maxSteps := 2000000) only [Fa.F111, rdSA_of b4, rdSN_of b4, rdSC_of b4, b4, hsl, rdI_of m1, m1, hg, Int.toNat_natCast, VC.Now, VC.vc_skip, VC.vc_ret, VC.vc_exit, VC.vc_block, VC.vc_cond, VC.vc_region, VC.lib, VC.mapN_drewN, VC.mapB_drewN, VC.regQ, VC.loopK, VC.reg, VC.opP, VC.opS, VC.opZ, VC.nomulB, VC.pv, VC.thenF, VC.blkF, VC.retF, VC.resV, VC.oneV, VC.evo, VC.bin, VC.binI, VC.cmpI, VC.arithI, VC.ldv, VC.slv, VC.pickP, VC.holds, VC.chainOf, VC.look, VC.junk, VC.put, VC.eff, VC.callee, VC.pureB, VC.rdK, VC.rdKs, VC.okKs, VC.eqKs, VC.fillL, VC.putL, VC.stW, VC.stOK, VC.mixF, VC.setAll, Nat.reduceAdd, Nat.reduceSub, Nat.reduceMul, if_true, if_false, ↓reduceIte, forall_const, implies_true, reduceCtorEq, ne_eq, Nat.reduceBNe, Nat.reduceBEq, IntKind.signed, Nat.reduceEqDiff, Nat.reduceLeDiff, Nat.reduceLT, eq_self, Int.reduceEq, Int.reduceLT, Int.reduceLE, Int.reduceAdd, Int.reduceSub, VC.regC_nil, VC.regC_cons, VC.regCK_eq, VC.callQ, VC.tailQ, VC.goCall, VC.chStep]
  refine ⟨⟨by omega, by omega⟩, ?_⟩
  have n0 := bs.at (i := 0) rfl
  have n1 := bs.at (i := 1) rfl
  have n2 := bs.at (i := 2) rfl
  subst hQ
  simp -dsimp (maxSteps := 2000000) only [Fa.F111, VC.Now, VC.vc_skip, VC.vc_ret, VC.vc_exit, VC.vc_block, VC.vc_cond, VC.vc_region, VC.lib, VC.mapN_drewN, VC.mapB_drewN, VC.regQ, VC.loopK, VC.reg, VC.opP, VC.opS, VC.opZ, VC.nomulB, VC.pv, VC.thenF, VC.blkF, VC.retF, VC.resV, VC.oneV, VC.evo, VC.bin, VC.binI, VC.cmpI, VC.arithI, VC.ldv, VC.slv, VC.pickP, VC.holds, VC.chainOf, VC.look, VC.junk, VC.put, VC.eff, VC.callee, VC.pureB, VC.rdK, VC.rdKs, VC.okKs, VC.eqKs, VC.fillL, VC.putL, VC.stW, VC.stOK, VC.mixF, VC.setAll, Nat.reduceAdd, Nat.reduceSub, Nat.reduceMul, if_true, if_false, ↓reduceIte, forall_const, implies_true, reduceCtorEq, ne_eq, Nat.reduceBNe, Nat.reduceBEq, IntKind.signed, Nat.reduceEqDiff, Nat.reduceLeDiff, Nat.reduceLT, eq_self, Int.reduceEq, Int.reduceLT, Int.reduceLE, Int.reduceAdd, Int.reduceSub, VC.regC_nil, VC.regC_cons, VC.regCK_eq, VC.callQ, VC.tailQ, VC.goCall, VC.chStep]
  (repeat rw [vc_seq])
  refine vc_plain _ fun Q hQ => ?_
  simp -dsimp (maxSteps := 2000000) only [Fa.F111, VC.Now, VC.vc_skip, VC.vc_ret, VC.vc_exit, VC.vc_block, VC.vc_cond, VC.vc_region, VC.lib, VC.mapN_drewN, VC.mapB_drewN, VC.regQ, VC.loopK, VC.reg, VC.opP, VC.opS, VC.opZ, VC.nomulB, VC.pv, VC.thenF, VC.blkF, VC.retF, VC.resV, VC.oneV, VC.evo, VC.bin, VC.binI, VC.cmpI, VC.arithI, VC.ldv, VC.slv, VC.pickP, VC.holds, VC.chainOf, VC.look, VC.junk, VC.put, VC.eff, VC.callee, VC.pureB, VC.rdK, VC.rdKs, VC.okKs, VC.eqKs, VC.fillL, VC.putL, VC.stW, VC.stOK, VC.mixF, VC.setAll, Nat.reduceAdd, Nat.reduceSub, Nat.reduceMul, if_true, if_false, ↓reduceIte, forall_const, implies_true, reduceCtorEq, ne_eq, Nat.reduceBNe, Nat.reduceBEq, IntKind.signed, Nat.reduceEqDiff, Nat.reduceLeDiff, Nat.reduceLT, eq_self, Int.reduceEq, Int.reduceLT, Int.reduceLE, Int.reduceAdd, Int.reduceSub, VC.regC_nil, VC.regC_cons, VC.regCK_eq, VC.callQ, VC.tailQ, VC.goCall, VC.chStep]
  have hkc : ∀ k ∈ s.came, k < s.all.length := fun k hk => (hok.cin k hk).1
  have hnt := toL_ok hkc hok.note i
  have hlt := toL_le s i
  obtain ⟨M, hM⟩ : ∃ M, mindL n f sender (toL s i) = M := ⟨_, rfl⟩
  refine (fun hrest : (∀ (ob : Nat) (sv : Value) (w2 : World), Below w.heap.size w w2 → Box w2 ob (minL M) → w.heap.size ≤ ob → Q Exit.normal ((?F1 : Nat → Value → Array Value) ob sv) w2) => ?main1) ?rest1
  case main1 =>
    refine WP_held 99 (fun j => w.heap.size ≤ j) (.take 0 (.take 1 (.take 2 (.take 3 (.take 4 (.take 5 (.take 6 (.take 7 (.take 8 (.take 9 (.take 10 (.take 11 (.take 12 (.take 13 (.two 14 (.two 15 (.one 16 (.one 17 .done)) 16 (.one 15 (.one 17 .done))) 16 (.one 14 (.one 15 (.one 17 .done)))))))))))))))))) Fa.mix (by kernel_rfl) rfl ?_
    simp -dsimp (maxSteps := 2000000) only [VC.heldF_done, VC.heldF_last, VC.planF_done, VC.planF_take, VC.planF_one, VC.planF_two, VC.planK_eq, VC.heldF_take, VC.heldF_one, VC.heldF_two, VC.heldF_twoL, VC.heldK_eq, VC.okRd, Fa.F111, rdI_of n0, n0, rdI_of n1, n1, rdI_of n2, n2, hsl, VC.Now, VC.vc, VC.lib, VC.mapN_drewN, VC.mapB_drewN, VC.regQ, VC.loopK, VC.reg, VC.opP, VC.opS, VC.opZ, VC.nomulB, VC.pv, VC.thenF, VC.blkF, VC.retF, VC.resV, VC.oneV, VC.evo, VC.bin, VC.binI, VC.cmpI, VC.arithI, VC.ldv, VC.slv, VC.pickP, VC.holds, VC.chainOf, VC.look, VC.junk, VC.put, VC.eff, VC.callee, VC.pureB, VC.rdK, VC.rdKs, VC.okKs, VC.eqKs, VC.fillL, VC.putL, VC.mixF, VC.setAll, Nat.reduceAdd, Nat.reduceSub, Nat.reduceMul, if_true, if_false, ↓reduceIte, forall_const, implies_true, reduceCtorEq, ne_eq, Nat.reduceBNe, Nat.reduceBEq, IntKind.signed, Nat.reduceEqDiff, Nat.reduceLeDiff, Nat.reduceLT, eq_self, Int.reduceEq, Int.reduceLT, Int.reduceLE, Int.reduceAdd, Int.reduceSub, VC.regC_nil, VC.regC_cons, VC.regCK_eq, VC.callQ, VC.tailQ, VC.goCall, VC.chStep]
    have hnsz : ¬ w.heap.size ≤ sb := by omega
    have hd1 : Below w.heap.size w (w.drewN 1) := below_drewN (Below.refl _ w) 1
    have hone : ∀ v ∈ minL M, v.oneCell' = true := by intro v hv; simp at hv; rcases hv with rfl | rfl | rfl | rfl | rfl <;> rfl
    refine ⟨hnsz, hnsz, hnsz, ?_, ?_, ?_⟩
    · refine CALL_by (to_any (h.below hd1) hkc (by omega) i) ?_
      rintro _ w2 ⟨A, c2, rfl, hrd, hp2⟩
      refine ⟨_, rfl, ?_⟩
      have hB2 : Below w.heap.size w w2 := hd1.trans hp2
      rw [VC.Now]
      simp -dsimp (maxSteps := 2000000) only [VC.heldF_done, VC.heldF_last, VC.planF_done, VC.planF_take, VC.planF_one, VC.planF_two, VC.planK_eq, VC.heldF_take, VC.heldF_one, VC.heldF_two, VC.heldF_twoL, VC.heldK_eq, VC.okRd, Fa.F111, VC.Now, VC.vc, VC.lib, VC.mapN_drewN, VC.mapB_drewN, VC.regQ, VC.loopK, VC.reg, VC.opP, VC.opS, VC.opZ, VC.nomulB, VC.pv, VC.thenF, VC.blkF, VC.retF, VC.resV, VC.oneV, VC.evo, VC.bin, VC.binI, VC.cmpI, VC.arithI, VC.ldv, VC.slv, VC.pickP, VC.holds, VC.chainOf, VC.look, VC.junk, VC.put, VC.eff, VC.callee, VC.pureB, VC.rdK, VC.rdKs, VC.okKs, VC.eqKs, VC.fillL, VC.putL, VC.mixF, VC.setAll, Nat.reduceAdd, Nat.reduceSub, Nat.reduceMul, if_true, if_false, ↓reduceIte, forall_const, implies_true, reduceCtorEq, ne_eq, Nat.reduceBNe, Nat.reduceBEq, IntKind.signed, Nat.reduceEqDiff, Nat.reduceLeDiff, Nat.reduceLT, eq_self, Int.reduceEq, Int.reduceLT, Int.reduceLE, Int.reduceAdd, Int.reduceSub, VC.regC_nil, VC.regC_cons, VC.regCK_eq, VC.callQ, VC.tailQ, VC.goCall, VC.chStep]
      refine ⟨Agree.of_below (X := fun j => w.heap.size ≤ j) hB2, ?_, ?_, ?_⟩
      · refine CALL_of (mind_any n f sender A c2 (toL s i) w2 hrd (by omega) hn hf hnt) fun w3 hB3 => ?_
        have hB3 := hB2.trans (hB3.mono hB2.size)
        rw [hM]
        rw [VC.Now]
        simp -dsimp (maxSteps := 2000000) only [VC.heldF_done, VC.heldF_last, VC.planF_done, VC.planF_take, VC.planF_one, VC.planF_two, VC.planK_eq, VC.heldF_take, VC.heldF_one, VC.heldF_two, VC.heldF_twoL, VC.heldK_eq, VC.okRd, Fa.F111, VC.Now, VC.vc, VC.lib, VC.mapN_drewN, VC.mapB_drewN, VC.regQ, VC.loopK, VC.reg, VC.opP, VC.opS, VC.opZ, VC.nomulB, VC.pv, VC.thenF, VC.blkF, VC.retF, VC.resV, VC.oneV, VC.evo, VC.bin, VC.binI, VC.cmpI, VC.arithI, VC.ldv, VC.slv, VC.pickP, VC.holds, VC.chainOf, VC.look, VC.junk, VC.put, VC.eff, VC.callee, VC.pureB, VC.rdK, VC.rdKs, VC.okKs, VC.eqKs, VC.fillL, VC.putL, VC.mixF, VC.setAll, Nat.reduceAdd, Nat.reduceSub, Nat.reduceMul, if_true, if_false, ↓reduceIte, forall_const, implies_true, reduceCtorEq, ne_eq, Nat.reduceBNe, Nat.reduceBEq, IntKind.signed, Nat.reduceEqDiff, Nat.reduceLeDiff, Nat.reduceLT, eq_self, Int.reduceEq, Int.reduceLT, Int.reduceLE, Int.reduceAdd, Int.reduceSub, VC.regC_nil, VC.regC_cons, VC.regCK_eq, VC.callQ, VC.tailQ, VC.goCall, VC.chStep]
        obtain ⟨f1, f2, f3⟩ := boxMade w3 z5m (minL M) 235 rfl hone
        have hB4 := hB3.trans (f3.mono hB3.size)
        refine ⟨Agree.of_below hB3, Agree.of_below (hB3.alloc hB3.size _), f1, Agree.of_below hB4, ?_⟩
        have hle := hB3.size
        change Q _ _ (stW (w3.alloc (.cells z5m.toArray 235)) ⟨w3.heap.size, 0, none⟩ 0 (minL M))
        clear f1 f3
        generalize stW (w3.alloc (.cells z5m.toArray 235)) ⟨w3.heap.size, 0, none⟩ 0 (minL M) = w5 at f2 hB4 ⊢
        generalize w3.heap.size = ob at f2 hle ⊢
        generalize Value.slice A ((toL s i)).length c2 = sv
        exact hrest ob sv w5 hB4 f2 hle
      · exact Agree.of_below (hB2.alloc hB2.size _)
      · have hz := Box.new w2 z5m 235
        have hBz : Below w2.heap.size w2 (w2.alloc (.cells z5m.toArray 235)) := (Below.refl _ _).alloc (Nat.le_refl _) _
        have hB2z := hB2.trans (hBz.mono hB2.size)
        refine CALL_of (mind_any n f sender A c2 (toL s i) _ (hrd.below hBz) (by omega) hn hf hnt) fun w4 hB4 => ?_
        have hz4 := hz.below hB4
        have hB4 := hB2z.trans (hB4.mono hB2z.size)
        rw [hM]
        rw [VC.Now]
        simp -dsimp (maxSteps := 2000000) only [VC.heldF_done, VC.heldF_last, VC.planF_done, VC.planF_take, VC.planF_one, VC.planF_two, VC.planK_eq, VC.heldF_take, VC.heldF_one, VC.heldF_two, VC.heldF_twoL, VC.heldK_eq, VC.okRd, Fa.F111, VC.Now, VC.vc, VC.lib, VC.mapN_drewN, VC.mapB_drewN, VC.regQ, VC.loopK, VC.reg, VC.opP, VC.opS, VC.opZ, VC.nomulB, VC.pv, VC.thenF, VC.blkF, VC.retF, VC.resV, VC.oneV, VC.evo, VC.bin, VC.binI, VC.cmpI, VC.arithI, VC.ldv, VC.slv, VC.pickP, VC.holds, VC.chainOf, VC.look, VC.junk, VC.put, VC.eff, VC.callee, VC.pureB, VC.rdK, VC.rdKs, VC.okKs, VC.eqKs, VC.fillL, VC.putL, VC.mixF, VC.setAll, Nat.reduceAdd, Nat.reduceSub, Nat.reduceMul, if_true, if_false, ↓reduceIte, forall_const, implies_true, reduceCtorEq, ne_eq, Nat.reduceBNe, Nat.reduceBEq, IntKind.signed, Nat.reduceEqDiff, Nat.reduceLeDiff, Nat.reduceLT, eq_self, Int.reduceEq, Int.reduceLT, Int.reduceLE, Int.reduceAdd, Int.reduceSub, VC.regC_nil, VC.regC_cons, VC.regCK_eq, VC.callQ, VC.tailQ, VC.goCall, VC.chStep]
        have bz := hz4
        obtain ⟨ok, bz2⟩ := bz.stAll (vs := minL M) rfl hone
        have hB9 := (stW_agree (X := fun j => j = w2.heap.size) (g := w2.heap.size) rfl (minL M) w4 0).to_below hB4 (hB4).size fun j hj => by rw [hj]; exact hB2.size
        refine ⟨Agree.of_below hB4, ok, Agree.of_below hB9, ?_⟩
        have hle := hB2.size
        change Q _ _ (stW w4 ⟨w2.heap.size, 0, none⟩ 0 (minL M))
        clear ok
        generalize stW w4 ⟨w2.heap.size, 0, none⟩ 0 (minL M) = w5 at bz2 hB9 ⊢
        generalize w2.heap.size = ob at bz2 hle ⊢
        generalize Value.slice A ((toL s i)).length c2 = sv
        exact hrest ob sv w5 hB9 bz2 hle
    · exact Agree.of_below (hd1.alloc (Nat.le_refl _) _)
    · have hz := Box.new (w.drewN 1) z5m 235
      have hB1 := hd1.alloc (Nat.le_refl _) (.cells z5m.toArray 235)
      change Box ((w.drewN 1).alloc (.cells z5m.toArray 235)) w.heap.size _ at hz
      change CALL _ _ _ ((w.drewN 1).alloc (.cells z5m.toArray 235)) _
      generalize (w.drewN 1).alloc (.cells z5m.toArray 235) = w2 at hz hB1 ⊢
      refine CALL_by (to_any (h.below hB1) hkc (by omega) i) ?_
      rintro _ w3 ⟨A, c2, rfl, hrd, hp2⟩
      refine ⟨_, rfl, ?_⟩
      have hz3 := hz.below hp2
      have hB3 := hB1.trans (hp2.mono hB1.size)
      rw [VC.Now]
      simp -dsimp (maxSteps := 2000000) only [VC.heldF_done, VC.heldF_last, VC.planF_done, VC.planF_take, VC.planF_one, VC.planF_two, VC.planK_eq, VC.heldF_take, VC.heldF_one, VC.heldF_two, VC.heldF_twoL, VC.heldK_eq, VC.okRd, Fa.F111, VC.Now, VC.vc, VC.lib, VC.mapN_drewN, VC.mapB_drewN, VC.regQ, VC.loopK, VC.reg, VC.opP, VC.opS, VC.opZ, VC.nomulB, VC.pv, VC.thenF, VC.blkF, VC.retF, VC.resV, VC.oneV, VC.evo, VC.bin, VC.binI, VC.cmpI, VC.arithI, VC.ldv, VC.slv, VC.pickP, VC.holds, VC.chainOf, VC.look, VC.junk, VC.put, VC.eff, VC.callee, VC.pureB, VC.rdK, VC.rdKs, VC.okKs, VC.eqKs, VC.fillL, VC.putL, VC.mixF, VC.setAll, Nat.reduceAdd, Nat.reduceSub, Nat.reduceMul, if_true, if_false, ↓reduceIte, forall_const, implies_true, reduceCtorEq, ne_eq, Nat.reduceBNe, Nat.reduceBEq, IntKind.signed, Nat.reduceEqDiff, Nat.reduceLeDiff, Nat.reduceLT, eq_self, Int.reduceEq, Int.reduceLT, Int.reduceLE, Int.reduceAdd, Int.reduceSub, VC.regC_nil, VC.regC_cons, VC.regCK_eq, VC.callQ, VC.tailQ, VC.goCall, VC.chStep]
      refine ⟨Agree.of_below hB3, ?_⟩
      refine CALL_of (mind_any n f sender A c2 (toL s i) w3 hrd (by omega) hn hf hnt) fun w4 hB4 => ?_
      have hz4 := hz3.below hB4
      have hB4 := hB3.trans (hB4.mono hB3.size)
      rw [hM]
      rw [VC.Now]
      simp -dsimp (maxSteps := 2000000) only [VC.heldF_done, VC.heldF_last, VC.planF_done, VC.planF_take, VC.planF_one, VC.planF_two, VC.planK_eq, VC.heldF_take, VC.heldF_one, VC.heldF_two, VC.heldF_twoL, VC.heldK_eq, VC.okRd, Fa.F111, VC.Now, VC.vc, VC.lib, VC.mapN_drewN, VC.mapB_drewN, VC.regQ, VC.loopK, VC.reg, VC.opP, VC.opS, VC.opZ, VC.nomulB, VC.pv, VC.thenF, VC.blkF, VC.retF, VC.resV, VC.oneV, VC.evo, VC.bin, VC.binI, VC.cmpI, VC.arithI, VC.ldv, VC.slv, VC.pickP, VC.holds, VC.chainOf, VC.look, VC.junk, VC.put, VC.eff, VC.callee, VC.pureB, VC.rdK, VC.rdKs, VC.okKs, VC.eqKs, VC.fillL, VC.putL, VC.mixF, VC.setAll, Nat.reduceAdd, Nat.reduceSub, Nat.reduceMul, if_true, if_false, ↓reduceIte, forall_const, implies_true, reduceCtorEq, ne_eq, Nat.reduceBNe, Nat.reduceBEq, IntKind.signed, Nat.reduceEqDiff, Nat.reduceLeDiff, Nat.reduceLT, eq_self, Int.reduceEq, Int.reduceLT, Int.reduceLE, Int.reduceAdd, Int.reduceSub, VC.regC_nil, VC.regC_cons, VC.regCK_eq, VC.callQ, VC.tailQ, VC.goCall, VC.chStep]
      have bz := hz4
      obtain ⟨ok, bz2⟩ := bz.stAll (vs := minL M) rfl hone
      have hB9 := (stW_agree (X := fun j => j = w.heap.size) (g := w.heap.size) rfl (minL M) w4 0).to_below hB4 (hB4).size fun j hj => by rw [hj]; exact Nat.le_refl _
      refine ⟨Agree.of_below hB4, ok, Agree.of_below hB9, ?_⟩
      change Q _ _ (stW w4 ⟨w.heap.size, 0, none⟩ 0 (minL M))
      clear ok
      obtain ⟨w5, hw5⟩ : ∃ w5, w5 = stW w4 ⟨w.heap.size, 0, none⟩ 0 (minL M) := ⟨_, rfl⟩
      rw [← hw5] at hB9 bz2 ⊢
      obtain ⟨ob, hob⟩ : ∃ ob, ob = w.heap.size := ⟨_, rfl⟩
      have hle : w.heap.size ≤ ob := by omega
      rw [← hob] at bz2 ⊢
      generalize Value.slice A ((toL s i)).length c2 = sv
      exact hrest ob sv w5 hB9 bz2 hle
  clear n0 n1 n2 b4 m1 hcell hsoft
  intro ob1 sv1 w2 hB2 hob1 hle1
  have st2 := h.below_st hB2
  have aw1 := Aw.new h hob1 hle1
  obtain ⟨g1, c1, e1, hg1, hcell1, hsoft1⟩ := so_all st2.hp hk
  rw [e] at e1
  simp only [Value.slice.injEq] at e1
  obtain ⟨e1a, _, rfl⟩ := e1
  cases e1a
  have bs2 : Box w2 sb (spreC n f liars sender va vc s.started) := st2.hp.get 0 rfl
  have b4 := bs2.at (i := 4) rfl
  rw [e] at b4
  have hsl2 := bs2.1
  have g4 : (w2.cell? ⟨g, k * 5 + 4, none⟩).isSome = true := by rw [hcell1 4 _ rfl]; rfl
  have f4 := hsoft1 4 (by omega)
  have st3 := so_set st2.hp hk e
  subst hQ; simp -dsimp (maxSteps := 2000000) only [VC.Now, VC.vc_skip, VC.vc_ret, VC.vc_exit, VC.vc_block, VC.vc_cond, VC.vc_region, VC.lib, VC.mapN_drewN, VC.mapB_drewN, VC.regQ, VC.loopK, VC.reg, VC.opP, VC.opS, VC.opZ, VC.nomulB, VC.pv, VC.thenF, VC.blkF, VC.retF, VC.resV, VC.oneV, VC.evo, VC.bin, VC.binI, VC.cmpI, VC.arithI, VC.ldv, VC.slv, VC.pickP, VC.holds, VC.chainOf, VC.look, VC.junk, VC.put, VC.eff, VC.callee, VC.pureB, VC.rdK, VC.rdKs, VC.okKs, VC.eqKs, VC.fillL, VC.putL, VC.stW, VC.stOK, VC.mixF, VC.setAll, Nat.reduceAdd, Nat.reduceSub, Nat.reduceMul, if_true, if_false, ↓reduceIte, forall_const, implies_true, reduceCtorEq, ne_eq, Nat.reduceBNe, Nat.reduceBEq, IntKind.signed, Nat.reduceEqDiff, Nat.reduceLeDiff, Nat.reduceLT, eq_self, Int.reduceEq, Int.reduceLT, Int.reduceLE, Int.reduceAdd, Int.reduceSub, VC.regC_nil, VC.regC_cons, VC.regCK_eq, VC.callQ, VC.tailQ, VC.goCall, VC.chStep]; (repeat rw [vc_seq]); refine vc_plain _ fun Q hQ => ?_; simp -dsimp (maxSteps := 2000000) only [Fa.F111, rdSA_of b4, rdSN_of b4, rdSC_of b4, b4, hsl2, hg1, g4, f4, VC.Now, VC.vc_skip, VC.vc_ret, VC.vc_exit, VC.vc_block, VC.vc_cond, VC.vc_region, VC.lib, VC.mapN_drewN, VC.mapB_drewN, VC.regQ, VC.loopK, VC.reg, VC.opP, VC.opS, VC.opZ, VC.nomulB, VC.pv, VC.thenF, VC.blkF, VC.retF, VC.resV, VC.oneV, VC.evo, VC.bin, VC.binI, VC.cmpI, VC.arithI, VC.ldv, VC.slv, VC.pickP, VC.holds, VC.chainOf, VC.look, VC.junk, VC.put, VC.eff, VC.callee, VC.pureB, VC.rdK, VC.rdKs, VC.okKs, VC.eqKs, VC.fillL, VC.putL, VC.stW, VC.stOK, VC.mixF, VC.setAll, Nat.reduceAdd, Nat.reduceSub, Nat.reduceMul, if_true, if_false, ↓reduceIte, forall_const, implies_true, reduceCtorEq, ne_eq, Nat.reduceBNe, Nat.reduceBEq, IntKind.signed, Nat.reduceEqDiff, Nat.reduceLeDiff, Nat.reduceLT, eq_self, Int.reduceEq, Int.reduceLT, Int.reduceLE, Int.reduceAdd, Int.reduceSub, VC.regC_nil, VC.regC_cons, VC.regCK_eq, VC.callQ, VC.tailQ, VC.goCall, VC.chStep]
  refine ⟨⟨by omega, by omega⟩, ?_⟩
  replace aw1 := aw1.step st3
  replace st2 := st2.trans st3
  clear st3 b4 bs2 hsl2 g4 f4 hcell1 hsoft1 hob1 hle1 bs hsl
  generalize w2.setCell ⟨g, k * 5 + 4, none⟩ (.bool true) = w3 at st2 aw1 ⊢
  have bs3 : Box w3 sb (spreC n f liars sender va vc s.started) := st2.hp.get 0 rfl
  have ho : OwnK w3 0 3 1 s.came.length vc (s.came.map fun (k : Nat) => iV k) := st2.hp.get 2 rfl
  obtain ⟨Ac, cc, ec, _⟩ := id ho
  have b5 := bs3.at (i := 5) rfl
  rw [ec] at b5
  have hsl3 := bs3.1
  subst hQ; simp -dsimp (maxSteps := 2000000) only [VC.Now, VC.vc_skip, VC.vc_ret, VC.vc_exit, VC.vc_block, VC.vc_cond, VC.vc_region, VC.lib, VC.mapN_drewN, VC.mapB_drewN, VC.regQ, VC.loopK, VC.reg, VC.opP, VC.opS, VC.opZ, VC.nomulB, VC.pv, VC.thenF, VC.blkF, VC.retF, VC.resV, VC.oneV, VC.evo, VC.bin, VC.binI, VC.cmpI, VC.arithI, VC.ldv, VC.slv, VC.pickP, VC.holds, VC.chainOf, VC.look, VC.junk, VC.put, VC.eff, VC.callee, VC.pureB, VC.rdK, VC.rdKs, VC.okKs, VC.eqKs, VC.fillL, VC.putL, VC.stW, VC.stOK, VC.mixF, VC.setAll, Nat.reduceAdd, Nat.reduceSub, Nat.reduceMul, if_true, if_false, ↓reduceIte, forall_const, implies_true, reduceCtorEq, ne_eq, Nat.reduceBNe, Nat.reduceBEq, IntKind.signed, Nat.reduceEqDiff, Nat.reduceLeDiff, Nat.reduceLT, eq_self, Int.reduceEq, Int.reduceLT, Int.reduceLE, Int.reduceAdd, Int.reduceSub, VC.regC_nil, VC.regC_cons, VC.regCK_eq, VC.callQ, VC.tailQ, VC.goCall, VC.chStep]; (repeat rw [vc_seq]); refine vc_plain _ fun Q hQ => ?_; simp -dsimp (maxSteps := 2000000) only [Fa.F111, rdSA_of b5, rdSN_of b5, rdSC_of b5, b5, hsl3, VC.Now, VC.vc_skip, VC.vc_ret, VC.vc_exit, VC.vc_block, VC.vc_cond, VC.vc_region, VC.lib, VC.mapN_drewN, VC.mapB_drewN, VC.regQ, VC.loopK, VC.reg, VC.opP, VC.opS, VC.opZ, VC.nomulB, VC.pv, VC.thenF, VC.blkF, VC.retF, VC.resV, VC.oneV, VC.evo, VC.bin, VC.binI, VC.cmpI, VC.arithI, VC.ldv, VC.slv, VC.pickP, VC.holds, VC.chainOf, VC.look, VC.junk, VC.put, VC.eff, VC.callee, VC.pureB, VC.rdK, VC.rdKs, VC.okKs, VC.eqKs, VC.fillL, VC.putL, VC.stW, VC.stOK, VC.mixF, VC.setAll, Nat.reduceAdd, Nat.reduceSub, Nat.reduceMul, if_true, if_false, ↓reduceIte, forall_const, implies_true, reduceCtorEq, ne_eq, Nat.reduceBNe, Nat.reduceBEq, IntKind.signed, Nat.reduceEqDiff, Nat.reduceLeDiff, Nat.reduceLT, eq_self, Int.reduceEq, Int.reduceLT, Int.reduceLE, Int.reduceAdd, Int.reduceSub, VC.regC_nil, VC.regC_cons, VC.regCK_eq, VC.callQ, VC.tailQ, VC.goCall, VC.chStep]
  refine OPW_appK (v := vc) (us := [iV k]) rfl Fa.apI23 (by rw [ec]; rfl) rfl rfl (by simp [Value.oneCell']) ho (Nat.zero_le _) (by omega) (by decide) fun v7 w7 ho7 hg7 hs7 => ?_
  have ho8 : OwnK w7 0 3 1 (s.came ++ [k]).length v7 ((s.came ++ [k]).map fun (k : Nat) => iV k) := by rw [List.map_append, List.length_append]; exact ho7
  obtain ⟨⟨r1, r2⟩, st7⟩ := st2.hp.growField 0 2 rfl rfl (by decide) ho8 hg7 hs7 5 (by show 5 < 7; omega)
  have hsl7 : sb < w7.heap.size := by have := hg7.size; omega
  obtain ⟨A7, c7, rfl, _⟩ := id ho8
  rw [VC.Now, VC.seqK_eq]
  simp -dsimp (maxSteps := 2000000) only [Fa.F111, r1, r2, hsl7, VC.Now, VC.vc_skip, VC.vc_ret, VC.vc_exit, VC.vc_block, VC.vc_cond, VC.vc_region, VC.lib, VC.mapN_drewN, VC.mapB_drewN, VC.regQ, VC.loopK, VC.reg, VC.opP, VC.opS, VC.opZ, VC.nomulB, VC.pv, VC.thenF, VC.blkF, VC.retF, VC.resV, VC.oneV, VC.evo, VC.bin, VC.binI, VC.cmpI, VC.arithI, VC.ldv, VC.slv, VC.pickP, VC.holds, VC.chainOf, VC.look, VC.junk, VC.put, VC.eff, VC.callee, VC.pureB, VC.rdK, VC.rdKs, VC.okKs, VC.eqKs, VC.fillL, VC.putL, VC.stW, VC.stOK, VC.mixF, VC.setAll, Nat.reduceAdd, Nat.reduceSub, Nat.reduceMul, if_true, if_false, ↓reduceIte, forall_const, implies_true, reduceCtorEq, ne_eq, Nat.reduceBNe, Nat.reduceBEq, IntKind.signed, Nat.reduceEqDiff, Nat.reduceLeDiff, Nat.reduceLT, eq_self, Int.reduceEq, Int.reduceLT, Int.reduceLE, Int.reduceAdd, Int.reduceSub, VC.regC_nil, VC.regC_cons, VC.regCK_eq, VC.callQ, VC.tailQ, VC.goCall, VC.chStep]
  replace aw1 := aw1.step st7
  replace st2 := st2.trans st7
  clear st7 b5 bs3 hsl3 ho ho7 ho8 hg7 hs7 r1 r2 hsl7
  generalize w7.setCell ⟨sb, 5, none⟩ (.slice A7 (s.came ++ [k]).length c7) = w8 at st2 aw1 ⊢
  have hto := toL_come hok hk hc i
  rw [if_pos hi] at hto
  obtain ⟨s2, hs2⟩ : ∃ s2 : BS, s2 = { s with all := s.all.set k (arr (s.all.getD k note0)), came := s.came ++ [k] } := ⟨_, rfl⟩
  change St B (SObs n f liars sender sb s va vc) w (SObs n f liars sender sb { s with all := s.all.set k (arr (s.all.getD k note0)), came := s.came ++ [k] } va (.slice A7 (s.came ++ [k]).length c7)) w8 at st2
  change Aw (SObs n f liars sender sb { s with all := s.all.set k (arr (s.all.getD k note0)), came := s.came ++ [k] } va (.slice A7 (s.came ++ [k]).length c7)) w8 ob1 (minL M) at aw1
  rw [← hs2] at st2 aw1 hto
  have hkc2 : ∀ k ∈ s2.came, k < s2.all.length := fun q hq => by
    rw [hs2] at hq ⊢
    show q < (s.all.set k _).length
    rw [List.length_set]
    rcases List.mem_append.1 hq with hq | hq
    · exact hkc q hq
    · rw [List.mem_singleton.1 hq]; exact hk
  have hlc2 : s2.came.length ≤ 2000 := by rw [hs2]; show (s.came ++ [k]).length ≤ 2000; rw [List.length_append]; show s.came.length + 1 ≤ 2000; omega
  have hxk : NoteOK n (arr (s.all.getD k note0)) := ⟨hx0.fr, hx0.to, hx0.what, hx0.n⟩
  have hnt2 : ∀ x ∈ toL s2 i, NoteOK n x := fun x hx => by
    rw [hto] at hx
    rcases List.mem_append.1 hx with hx | hx
    · exact hnt x hx
    · rw [List.mem_singleton.1 hx]; exact hxk
  have hlt2 := toL_le s2 i
  have hml2 : mindL n f sender (toL s2 i) = mindF n f sender (mindL n f sender (toL s i)) (arr (s.all.getD k note0)) := by rw [hto, mindL_snoc]
  rw [hM] at hml2
  clear hnt hlt
  have hnt := hnt2
  generalize M = MW at *
  obtain ⟨M, hM2⟩ : ∃ M, mindL n f sender (toL s2 i) = M := ⟨_, rfl⟩
  have bs8 : Box w8 sb (spreC n f liars sender va (.slice A7 (s.came ++ [k]).length c7) s2.started) := st2.hp.get 0 rfl
  have n0 := bs8.at (i := 0) rfl
  have n1 := bs8.at (i := 1) rfl
  have n2 := bs8.at (i := 2) rfl
  have hsl := bs8.1
  subst hQ
  simp -dsimp (maxSteps := 2000000) only [Fa.F111, VC.Now, VC.vc_skip, VC.vc_ret, VC.vc_exit, VC.vc_block, VC.vc_cond, VC.vc_region, VC.lib, VC.mapN_drewN, VC.mapB_drewN, VC.regQ, VC.loopK, VC.reg, VC.opP, VC.opS, VC.opZ, VC.nomulB, VC.pv, VC.thenF, VC.blkF, VC.retF, VC.resV, VC.oneV, VC.evo, VC.bin, VC.binI, VC.cmpI, VC.arithI, VC.ldv, VC.slv, VC.pickP, VC.holds, VC.chainOf, VC.look, VC.junk, VC.put, VC.eff, VC.callee, VC.pureB, VC.rdK, VC.rdKs, VC.okKs, VC.eqKs, VC.fillL, VC.putL, VC.stW, VC.stOK, VC.mixF, VC.setAll, Nat.reduceAdd, Nat.reduceSub, Nat.reduceMul, if_true, if_false, ↓reduceIte, forall_const, implies_true, reduceCtorEq, ne_eq, Nat.reduceBNe, Nat.reduceBEq, IntKind.signed, Nat.reduceEqDiff, Nat.reduceLeDiff, Nat.reduceLT, eq_self, Int.reduceEq, Int.reduceLT, Int.reduceLE, Int.reduceAdd, Int.reduceSub, VC.regC_nil, VC.regC_cons, VC.regCK_eq, VC.callQ, VC.tailQ, VC.goCall, VC.chStep]
  (repeat rw [vc_seq])
  refine vc_plain _ fun Q hQ => ?_
  simp -dsimp (maxSteps := 2000000) only [Fa.F111, VC.Now, VC.vc_skip, VC.vc_ret, VC.vc_exit, VC.vc_block, VC.vc_cond, VC.vc_region, VC.lib, VC.mapN_drewN, VC.mapB_drewN, VC.regQ, VC.loopK, VC.reg, VC.opP, VC.opS, VC.opZ, VC.nomulB, VC.pv, VC.thenF, VC.blkF, VC.retF, VC.resV, VC.oneV, VC.evo, VC.bin, VC.binI, VC.cmpI, VC.arithI, VC.ldv, VC.slv, VC.pickP, VC.holds, VC.chainOf, VC.look, VC.junk, VC.put, VC.eff, VC.callee, VC.pureB, VC.rdK, VC.rdKs, VC.okKs, VC.eqKs, VC.fillL, VC.putL, VC.stW, VC.stOK, VC.mixF, VC.setAll, Nat.reduceAdd, Nat.reduceSub, Nat.reduceMul, if_true, if_false, ↓reduceIte, forall_const, implies_true, reduceCtorEq, ne_eq, Nat.reduceBNe, Nat.reduceBEq, IntKind.signed, Nat.reduceEqDiff, Nat.reduceLeDiff, Nat.reduceLT, eq_self, Int.reduceEq, Int.reduceLT, Int.reduceLE, Int.reduceAdd, Int.reduceSub, VC.regC_nil, VC.regC_cons, VC.regCK_eq, VC.callQ, VC.tailQ, VC.goCall, VC.chStep]
  refine (fun hrest : (∀ (ob : Nat) (sv : Value) (w2 : World), Below w8.heap.size w8 w2 → Box w2 ob (minL M) → w8.heap.size ≤ ob → Q Exit.normal ((?F2 : Nat → Value → Array Value) ob sv) w2) => ?main2) ?rest2
  case main2 =>
    refine WP_held 99 (fun j => w8.heap.size ≤ j) (.take 0 (.take 1 (.take 2 (.take 3 (.take 4 (.take 5 (.take 6 (.take 7 (.take 8 (.take 9 (.take 10 (.take 11 (.take 12 (.take 13 (.two 14 (.two 15 (.one 16 (.one 17 .done)) 16 (.one 15 (.one 17 .done))) 16 (.one 14 (.one 15 (.one 17 .done)))))))))))))))))) Fa.mix (by kernel_rfl) rfl ?_
    simp -dsimp (maxSteps := 2000000) only [VC.heldF_done, VC.heldF_last, VC.planF_done, VC.planF_take, VC.planF_one, VC.planF_two, VC.planK_eq, VC.heldF_take, VC.heldF_one, VC.heldF_two, VC.heldF_twoL, VC.heldK_eq, VC.okRd, Fa.F111, rdI_of n0, n0, rdI_of n1, n1, rdI_of n2, n2, hsl, VC.Now, VC.vc, VC.lib, VC.mapN_drewN, VC.mapB_drewN, VC.regQ, VC.loopK, VC.reg, VC.opP, VC.opS, VC.opZ, VC.nomulB, VC.pv, VC.thenF, VC.blkF, VC.retF, VC.resV, VC.oneV, VC.evo, VC.bin, VC.binI, VC.cmpI, VC.arithI, VC.ldv, VC.slv, VC.pickP, VC.holds, VC.chainOf, VC.look, VC.junk, VC.put, VC.eff, VC.callee, VC.pureB, VC.rdK, VC.rdKs, VC.okKs, VC.eqKs, VC.fillL, VC.putL, VC.mixF, VC.setAll, Nat.reduceAdd, Nat.reduceSub, Nat.reduceMul, if_true, if_false, ↓reduceIte, forall_const, implies_true, reduceCtorEq, ne_eq, Nat.reduceBNe, Nat.reduceBEq, IntKind.signed, Nat.reduceEqDiff, Nat.reduceLeDiff, Nat.reduceLT, eq_self, Int.reduceEq, Int.reduceLT, Int.reduceLE, Int.reduceAdd, Int.reduceSub, VC.regC_nil, VC.regC_cons, VC.regCK_eq, VC.callQ, VC.tailQ, VC.goCall, VC.chStep]
    have hnsz : ¬ w8.heap.size ≤ sb := by omega
    have hd1 : Below w8.heap.size w8 (w8.drewN 1) := below_drewN (Below.refl _ w8) 1
    have hone : ∀ v ∈ minL M, v.oneCell' = true := by intro v hv; simp at hv; rcases hv with rfl | rfl | rfl | rfl | rfl <;> rfl
    refine ⟨hnsz, hnsz, hnsz, ?_, ?_, ?_⟩
    · refine CALL_by (to_any (st2.hp.below hd1) hkc2 (by omega) i) ?_
      rintro _ w2 ⟨A, c2, rfl, hrd, hp2⟩
      refine ⟨_, rfl, ?_⟩
      have hB2 : Below w8.heap.size w8 w2 := hd1.trans hp2
      rw [VC.Now]
      simp -dsimp (maxSteps := 2000000) only [VC.heldF_done, VC.heldF_last, VC.planF_done, VC.planF_take, VC.planF_one, VC.planF_two, VC.planK_eq, VC.heldF_take, VC.heldF_one, VC.heldF_two, VC.heldF_twoL, VC.heldK_eq, VC.okRd, Fa.F111, VC.Now, VC.vc, VC.lib, VC.mapN_drewN, VC.mapB_drewN, VC.regQ, VC.loopK, VC.reg, VC.opP, VC.opS, VC.opZ, VC.nomulB, VC.pv, VC.thenF, VC.blkF, VC.retF, VC.resV, VC.oneV, VC.evo, VC.bin, VC.binI, VC.cmpI, VC.arithI, VC.ldv, VC.slv, VC.pickP, VC.holds, VC.chainOf, VC.look, VC.junk, VC.put, VC.eff, VC.callee, VC.pureB, VC.rdK, VC.rdKs, VC.okKs, VC.eqKs, VC.fillL, VC.putL, VC.mixF, VC.setAll, Nat.reduceAdd, Nat.reduceSub, Nat.reduceMul, if_true, if_false, ↓reduceIte, forall_const, implies_true, reduceCtorEq, ne_eq, Nat.reduceBNe, Nat.reduceBEq, IntKind.signed, Nat.reduceEqDiff, Nat.reduceLeDiff, Nat.reduceLT, eq_self, Int.reduceEq, Int.reduceLT, Int.reduceLE, Int.reduceAdd, Int.reduceSub, VC.regC_nil, VC.regC_cons, VC.regCK_eq, VC.callQ, VC.tailQ, VC.goCall, VC.chStep]
      refine ⟨Agree.of_below (X := fun j => w8.heap.size ≤ j) hB2, ?_, ?_, ?_⟩
      · refine CALL_of (mind_any n f sender A c2 (toL s2 i) w2 hrd (by omega) hn hf hnt) fun w3 hB3 => ?_
        have hB3 := hB2.trans (hB3.mono hB2.size)
        rw [hM2]
        rw [VC.Now]
        simp -dsimp (maxSteps := 2000000) only [VC.heldF_done, VC.heldF_last, VC.planF_done, VC.planF_take, VC.planF_one, VC.planF_two, VC.planK_eq, VC.heldF_take, VC.heldF_one, VC.heldF_two, VC.heldF_twoL, VC.heldK_eq, VC.okRd, Fa.F111, VC.Now, VC.vc, VC.lib, VC.mapN_drewN, VC.mapB_drewN, VC.regQ, VC.loopK, VC.reg, VC.opP, VC.opS, VC.opZ, VC.nomulB, VC.pv, VC.thenF, VC.blkF, VC.retF, VC.resV, VC.oneV, VC.evo, VC.bin, VC.binI, VC.cmpI, VC.arithI, VC.ldv, VC.slv, VC.pickP, VC.holds, VC.chainOf, VC.look, VC.junk, VC.put, VC.eff, VC.callee, VC.pureB, VC.rdK, VC.rdKs, VC.okKs, VC.eqKs, VC.fillL, VC.putL, VC.mixF, VC.setAll, Nat.reduceAdd, Nat.reduceSub, Nat.reduceMul, if_true, if_false, ↓reduceIte, forall_const, implies_true, reduceCtorEq, ne_eq, Nat.reduceBNe, Nat.reduceBEq, IntKind.signed, Nat.reduceEqDiff, Nat.reduceLeDiff, Nat.reduceLT, eq_self, Int.reduceEq, Int.reduceLT, Int.reduceLE, Int.reduceAdd, Int.reduceSub, VC.regC_nil, VC.regC_cons, VC.regCK_eq, VC.callQ, VC.tailQ, VC.goCall, VC.chStep]
        obtain ⟨f1, f2, f3⟩ := boxMade w3 z5m (minL M) 235 rfl hone
        have hB4 := hB3.trans (f3.mono hB3.size)
        refine ⟨Agree.of_below hB3, Agree.of_below (hB3.alloc hB3.size _), f1, Agree.of_below hB4, ?_⟩
        have hle := hB3.size
        change Q _ _ (stW (w3.alloc (.cells z5m.toArray 235)) ⟨w3.heap.size, 0, none⟩ 0 (minL M))
        clear f1 f3
        generalize stW (w3.alloc (.cells z5m.toArray 235)) ⟨w3.heap.size, 0, none⟩ 0 (minL M) = w5 at f2 hB4 ⊢
        generalize w3.heap.size = ob at f2 hle ⊢
        generalize Value.slice A ((toL s2 i)).length c2 = sv
        exact hrest ob sv w5 hB4 f2 hle
      · exact Agree.of_below (hB2.alloc hB2.size _)
      · have hz := Box.new w2 z5m 235
        have hBz : Below w2.heap.size w2 (w2.alloc (.cells z5m.toArray 235)) := (Below.refl _ _).alloc (Nat.le_refl _) _
        have hB2z := hB2.trans (hBz.mono hB2.size)
        refine CALL_of (mind_any n f sender A c2 (toL s2 i) _ (hrd.below hBz) (by omega) hn hf hnt) fun w4 hB4 => ?_
        have hz4 := hz.below hB4
        have hB4 := hB2z.trans (hB4.mono hB2z.size)
        rw [hM2]
        rw [VC.Now]
        simp -dsimp (maxSteps := 2000000) only [VC.heldF_done, VC.heldF_last, VC.planF_done, VC.planF_take, VC.planF_one, VC.planF_two, VC.planK_eq, VC.heldF_take, VC.heldF_one, VC.heldF_two, VC.heldF_twoL, VC.heldK_eq, VC.okRd, Fa.F111, VC.Now, VC.vc, VC.lib, VC.mapN_drewN, VC.mapB_drewN, VC.regQ, VC.loopK, VC.reg, VC.opP, VC.opS, VC.opZ, VC.nomulB, VC.pv, VC.thenF, VC.blkF, VC.retF, VC.resV, VC.oneV, VC.evo, VC.bin, VC.binI, VC.cmpI, VC.arithI, VC.ldv, VC.slv, VC.pickP, VC.holds, VC.chainOf, VC.look, VC.junk, VC.put, VC.eff, VC.callee, VC.pureB, VC.rdK, VC.rdKs, VC.okKs, VC.eqKs, VC.fillL, VC.putL, VC.mixF, VC.setAll, Nat.reduceAdd, Nat.reduceSub, Nat.reduceMul, if_true, if_false, ↓reduceIte, forall_const, implies_true, reduceCtorEq, ne_eq, Nat.reduceBNe, Nat.reduceBEq, IntKind.signed, Nat.reduceEqDiff, Nat.reduceLeDiff, Nat.reduceLT, eq_self, Int.reduceEq, Int.reduceLT, Int.reduceLE, Int.reduceAdd, Int.reduceSub, VC.regC_nil, VC.regC_cons, VC.regCK_eq, VC.callQ, VC.tailQ, VC.goCall, VC.chStep]
        have bz := hz4
        obtain ⟨ok, bz2⟩ := bz.stAll (vs := minL M) rfl hone
        have hB9 := (stW_agree (X := fun j => j = w2.heap.size) (g := w2.heap.size) rfl (minL M) w4 0).to_below hB4 (hB4).size fun j hj => by rw [hj]; exact hB2.size
        refine ⟨Agree.of_below hB4, ok, Agree.of_below hB9, ?_⟩
        have hle := hB2.size
        change Q _ _ (stW w4 ⟨w2.heap.size, 0, none⟩ 0 (minL M))
        clear ok
        generalize stW w4 ⟨w2.heap.size, 0, none⟩ 0 (minL M) = w5 at bz2 hB9 ⊢
        generalize w2.heap.size = ob at bz2 hle ⊢
        generalize Value.slice A ((toL s2 i)).length c2 = sv
        exact hrest ob sv w5 hB9 bz2 hle
    · exact Agree.of_below (hd1.alloc (Nat.le_refl _) _)
    · have hz := Box.new (w8.drewN 1) z5m 235
      have hB1 := hd1.alloc (Nat.le_refl _) (.cells z5m.toArray 235)
      change Box ((w8.drewN 1).alloc (.cells z5m.toArray 235)) w8.heap.size _ at hz
      change CALL _ _ _ ((w8.drewN 1).alloc (.cells z5m.toArray 235)) _
      generalize (w8.drewN 1).alloc (.cells z5m.toArray 235) = w2 at hz hB1 ⊢
      refine CALL_by (to_any (st2.hp.below hB1) hkc2 (by omega) i) ?_
      rintro _ w3 ⟨A, c2, rfl, hrd, hp2⟩
      refine ⟨_, rfl, ?_⟩
      have hz3 := hz.below hp2
      have hB3 := hB1.trans (hp2.mono hB1.size)
      rw [VC.Now]
      simp -dsimp (maxSteps := 2000000) only [VC.heldF_done, VC.heldF_last, VC.planF_done, VC.planF_take, VC.planF_one, VC.planF_two, VC.planK_eq, VC.heldF_take, VC.heldF_one, VC.heldF_two, VC.heldF_twoL, VC.heldK_eq, VC.okRd, Fa.F111, VC.Now, VC.vc, VC.lib, VC.mapN_drewN, VC.mapB_drewN, VC.regQ, VC.loopK, VC.reg, VC.opP, VC.opS, VC.opZ, VC.nomulB, VC.pv, VC.thenF, VC.blkF, VC.retF, VC.resV, VC.oneV, VC.evo, VC.bin, VC.binI, VC.cmpI, VC.arithI, VC.ldv, VC.slv, VC.pickP, VC.holds, VC.chainOf, VC.look, VC.junk, VC.put, VC.eff, VC.callee, VC.pureB, VC.rdK, VC.rdKs, VC.okKs, VC.eqKs, VC.fillL, VC.putL, VC.mixF, VC.setAll, Nat.reduceAdd, Nat.reduceSub, Nat.reduceMul, if_true, if_false, ↓reduceIte, forall_const, implies_true, reduceCtorEq, ne_eq, Nat.reduceBNe, Nat.reduceBEq, IntKind.signed, Nat.reduceEqDiff, Nat.reduceLeDiff, Nat.reduceLT, eq_self, Int.reduceEq, Int.reduceLT, Int.reduceLE, Int.reduceAdd, Int.reduceSub, VC.regC_nil, VC.regC_cons, VC.regCK_eq, VC.callQ, VC.tailQ, VC.goCall, VC.chStep]
      refine ⟨Agree.of_below hB3, ?_⟩
      refine CALL_of (mind_any n f sender A c2 (toL s2 i) w3 hrd (by omega) hn hf hnt) fun w4 hB4 => ?_
      have hz4 := hz3.below hB4
      have hB4 := hB3.trans (hB4.mono hB3.size)
      rw [hM2]
      rw [VC.Now]
      simp -dsimp (maxSteps := 2000000) only [VC.heldF_done, VC.heldF_last, VC.planF_done, VC.planF_take, VC.planF_one, VC.planF_two, VC.planK_eq, VC.heldF_take, VC.heldF_one, VC.heldF_two, VC.heldF_twoL, VC.heldK_eq, VC.okRd, Fa.F111, VC.Now, VC.vc, VC.lib, VC.mapN_drewN, VC.mapB_drewN, VC.regQ, VC.loopK, VC.reg, VC.opP, VC.opS, VC.opZ, VC.nomulB, VC.pv, VC.thenF, VC.blkF, VC.retF, VC.resV, VC.oneV, VC.evo, VC.bin, VC.binI, VC.cmpI, VC.arithI, VC.ldv, VC.slv, VC.pickP, VC.holds, VC.chainOf, VC.look, VC.junk, VC.put, VC.eff, VC.callee, VC.pureB, VC.rdK, VC.rdKs, VC.okKs, VC.eqKs, VC.fillL, VC.putL, VC.mixF, VC.setAll, Nat.reduceAdd, Nat.reduceSub, Nat.reduceMul, if_true, if_false, ↓reduceIte, forall_const, implies_true, reduceCtorEq, ne_eq, Nat.reduceBNe, Nat.reduceBEq, IntKind.signed, Nat.reduceEqDiff, Nat.reduceLeDiff, Nat.reduceLT, eq_self, Int.reduceEq, Int.reduceLT, Int.reduceLE, Int.reduceAdd, Int.reduceSub, VC.regC_nil, VC.regC_cons, VC.regCK_eq, VC.callQ, VC.tailQ, VC.goCall, VC.chStep]
      have bz := hz4
      obtain ⟨ok, bz2⟩ := bz.stAll (vs := minL M) rfl hone
      have hB9 := (stW_agree (X := fun j => j = w8.heap.size) (g := w8.heap.size) rfl (minL M) w4 0).to_below hB4 (hB4).size fun j hj => by rw [hj]; exact Nat.le_refl _
      refine ⟨Agree.of_below hB4, ok, Agree.of_below hB9, ?_⟩
      change Q _ _ (stW w4 ⟨w8.heap.size, 0, none⟩ 0 (minL M))
      clear ok
      obtain ⟨w5, hw5⟩ : ∃ w5, w5 = stW w4 ⟨w8.heap.size, 0, none⟩ 0 (minL M) := ⟨_, rfl⟩
      rw [← hw5] at hB9 bz2 ⊢
      obtain ⟨ob, hob⟩ : ∃ ob, ob = w8.heap.size := ⟨_, rfl⟩
      have hle : w8.heap.size ≤ ob := by omega
      rw [← hob] at bz2 ⊢
      generalize Value.slice A ((toL s2 i)).length c2 = sv
      exact hrest ob sv w5 hB9 bz2 hle
  clear n0 n1 n2 bs8 hsl
  intro ob2 sv2 w9 hB9 hob2 hle2
  have aw2 := Aw.new st2.hp hob2 hle2
  replace aw1 := aw1.below hB9
  replace st2 := st2.later hB9
  have hin2 : (s.all.getD k note0).to.toNat = i := by omega
  have bs9 : Box w9 sb (spreC n f liars sender va (.slice A7 (s.came ++ [k]).length c7) s2.started) := st2.hp.get 0 rfl
  have n3 := bs9.at (i := 3) rfl
  have hsl := bs9.1
  subst hQ
  simp -dsimp (maxSteps := 2000000) only [Fa.F111, VC.Now, VC.vc_skip, VC.vc_ret, VC.vc_exit, VC.vc_block, VC.vc_cond, VC.vc_region, VC.lib, VC.mapN_drewN, VC.mapB_drewN, VC.regQ, VC.loopK, VC.reg, VC.opP, VC.opS, VC.opZ, VC.nomulB, VC.pv, VC.thenF, VC.blkF, VC.retF, VC.resV, VC.oneV, VC.evo, VC.bin, VC.binI, VC.cmpI, VC.arithI, VC.ldv, VC.slv, VC.pickP, VC.holds, VC.chainOf, VC.look, VC.junk, VC.put, VC.eff, VC.callee, VC.pureB, VC.rdK, VC.rdKs, VC.okKs, VC.eqKs, VC.fillL, VC.putL, VC.stW, VC.stOK, VC.mixF, VC.setAll, Nat.reduceAdd, Nat.reduceSub, Nat.reduceMul, if_true, if_false, ↓reduceIte, forall_const, implies_true, reduceCtorEq, ne_eq, Nat.reduceBNe, Nat.reduceBEq, IntKind.signed, Nat.reduceEqDiff, Nat.reduceLeDiff, Nat.reduceLT, eq_self, Int.reduceEq, Int.reduceLT, Int.reduceLE, Int.reduceAdd, Int.reduceSub, VC.regC_nil, VC.regC_cons, VC.regCK_eq, VC.callQ, VC.tailQ, VC.goCall, VC.chStep]
  (repeat rw [vc_seq])
  simp -dsimp (maxSteps := 2000000) only [Fa.F111, rdI_of n3, n3, hsl, VC.Now, VC.vc_skip, VC.vc_ret, VC.vc_exit, VC.vc_block, VC.vc_cond, VC.vc_region, VC.lib, VC.mapN_drewN, VC.mapB_drewN, VC.regQ, VC.loopK, VC.reg, VC.opP, VC.opS, VC.opZ, VC.nomulB, VC.pv, VC.thenF, VC.blkF, VC.retF, VC.resV, VC.oneV, VC.evo, VC.bin, VC.binI, VC.cmpI, VC.arithI, VC.ldv, VC.slv, VC.pickP, VC.holds, VC.chainOf, VC.look, VC.junk, VC.put, VC.eff, VC.callee, VC.pureB, VC.rdK, VC.rdKs, VC.okKs, VC.eqKs, VC.fillL, VC.putL, VC.stW, VC.stOK, VC.mixF, VC.setAll, Nat.reduceAdd, Nat.reduceSub, Nat.reduceMul, if_true, if_false, ↓reduceIte, forall_const, implies_true, reduceCtorEq, ne_eq, Nat.reduceBNe, Nat.reduceBEq, IntKind.signed, Nat.reduceEqDiff, Nat.reduceLeDiff, Nat.reduceLT, eq_self, Int.reduceEq, Int.reduceLT, Int.reduceLE, Int.reduceAdd, Int.reduceSub, VC.regC_nil, VC.regC_cons, VC.regCK_eq, VC.callQ, VC.tailQ, VC.goCall, VC.chStep]
  refine CALL_of (bit_any liars i w9 hl (by omega)) fun w10 hw10 => ?_
  subst hw10
  rw [VC.Now, VC.seqK_eq]
  cases hli : liars.testBit i with
  | true =>
    have hbc : bcome n f liars sender k s = s2 := by unfold bcome; rw [hin2, if_pos hli, hs2]
    simp -dsimp (maxSteps := 2000000) only [Fa.F111, VC.Now, VC.vc, VC.lib, VC.mapN_drewN, VC.mapB_drewN, VC.regQ, VC.loopK, VC.reg, VC.opP, VC.opS, VC.opZ, VC.nomulB, VC.pv, VC.thenF, VC.blkF, VC.retF, VC.resV, VC.oneV, VC.evo, VC.bin, VC.binI, VC.cmpI, VC.arithI, VC.ldv, VC.slv, VC.pickP, VC.holds, VC.chainOf, VC.look, VC.junk, VC.put, VC.eff, VC.callee, VC.pureB, VC.rdK, VC.rdKs, VC.okKs, VC.eqKs, VC.fillL, VC.putL, VC.stW, VC.stOK, VC.mixF, VC.setAll, Nat.reduceAdd, Nat.reduceSub, Nat.reduceMul, if_true, if_false, ↓reduceIte, forall_const, implies_true, reduceCtorEq, ne_eq, Nat.reduceBNe, Nat.reduceBEq, IntKind.signed, Nat.reduceEqDiff, Nat.reduceLeDiff, Nat.reduceLT, eq_self, Int.reduceEq, Int.reduceLT, Int.reduceLE, Int.reduceAdd, Int.reduceSub, VC.regC_nil, VC.regC_cons, VC.regCK_eq, VC.callQ, VC.tailQ, VC.goCall, VC.chStep]
    exact ⟨_, _, by rw [hbc]; exact st2⟩
  | false =>
  have hmi : s.mi i = MW := by rw [hok.mind i hli, hM]
  have hMF : mindF n f sender MW (arr (s.all.getD k note0)) = M := by rw [← hml2]; exact hM2
  have hbc : bcome n f liars sender k s = { s2 with all := s2.all ++ saysL n i MW M, mi := upd s.mi i M } := by
    unfold bcome
    rw [hin2, if_neg (by rw [hli]; simp), hs2, hmi, hMF, hi]
  have hall2 : s2.all.length + 2 * n ≤ 90000 := by rw [hs2]; show (s.all.set k _).length + 2 * n ≤ _; rw [List.length_set]; omega
  simp -dsimp (maxSteps := 2000000) only [Fa.F111, VC.Now, VC.vc_skip, VC.vc_ret, VC.vc_exit, VC.vc_block, VC.vc_cond, VC.vc_region, VC.lib, VC.mapN_drewN, VC.mapB_drewN, VC.regQ, VC.loopK, VC.reg, VC.opP, VC.opS, VC.opZ, VC.nomulB, VC.pv, VC.thenF, VC.blkF, VC.retF, VC.resV, VC.oneV, VC.evo, VC.bin, VC.binI, VC.cmpI, VC.arithI, VC.ldv, VC.slv, VC.pickP, VC.holds, VC.chainOf, VC.look, VC.junk, VC.put, VC.eff, VC.callee, VC.pureB, VC.rdK, VC.rdKs, VC.okKs, VC.eqKs, VC.fillL, VC.putL, VC.stW, VC.stOK, VC.mixF, VC.setAll, Nat.reduceAdd, Nat.reduceSub, Nat.reduceMul, if_true, if_false, ↓reduceIte, forall_const, implies_true, reduceCtorEq, ne_eq, Nat.reduceBNe, Nat.reduceBEq, IntKind.signed, Nat.reduceEqDiff, Nat.reduceLeDiff, Nat.reduceLT, eq_self, Int.reduceEq, Int.reduceLT, Int.reduceLE, Int.reduceAdd, Int.reduceSub, VC.regC_nil, VC.regC_cons, VC.regCK_eq, VC.callQ, VC.tailQ, VC.goCall, VC.chStep]
  clear bs9 n3 hsl hB9
  have u0 := aw1.box.at (i := 0) rfl
  have u1 := aw1.box.at (i := 1) rfl
  have hul := aw1.box.1
  have v0 := aw2.box.at (i := 0) rfl
  have v1 := aw2.box.at (i := 1) rfl
  have v3 := aw2.box.at (i := 3) rfl
  have hvl := aw2.box.1
  have hsay : saysL n i MW M = (if M.echo = true ∧ MW.echo = false then sendL n i 2 M.word else []) ++ (if M.ready = true ∧ MW.ready = false then sendL n i 3 M.word else []) := rfl
  by_cases he : M.echo = true ∧ MW.echo = false
  · rw [if_pos he] at hsay
    rw [he.2] at u0
    rw [he.1] at v0
    simp -dsimp (maxSteps := 2000000) only [Fa.F111, rdB_of u0, u0, rdB_of v0, v0, rdI_of v3, v3, hul, hvl, undef, tu, uf, ul, ur, VC.Now, VC.vc, VC.lib, VC.mapN_drewN, VC.mapB_drewN, VC.regQ, VC.loopK, VC.reg, VC.opP, VC.opS, VC.opZ, VC.nomulB, VC.pv, VC.thenF, VC.blkF, VC.retF, VC.resV, VC.oneV, VC.evo, VC.bin, VC.binI, VC.cmpI, VC.arithI, VC.ldv, VC.slv, VC.pickP, VC.holds, VC.chainOf, VC.look, VC.junk, VC.put, VC.eff, VC.callee, VC.pureB, VC.rdK, VC.rdKs, VC.okKs, VC.eqKs, VC.fillL, VC.putL, VC.stW, VC.stOK, VC.mixF, VC.setAll, Nat.reduceAdd, Nat.reduceSub, Nat.reduceMul, if_true, if_false, ↓reduceIte, forall_const, implies_true, reduceCtorEq, ne_eq, Nat.reduceBNe, Nat.reduceBEq, IntKind.signed, Nat.reduceEqDiff, Nat.reduceLeDiff, Nat.reduceLT, eq_self, Int.reduceEq, Int.reduceLT, Int.reduceLE, Int.reduceAdd, Int.reduceSub, VC.regC_nil, VC.regC_cons, VC.regCK_eq, VC.callQ, VC.tailQ, VC.goCall, VC.chStep]
    intro u5
    refine CALL_by (dsend_any st2.hp (by omega) i 2 M.word) ?_
    rintro _ w11 ⟨rfl, v11, st11⟩
    refine ⟨_, rfl, ?_⟩
    replace aw1 := aw1.step st11
    replace aw2 := aw2.step st11
    replace st2 := st2.trans st11
    clear u0 u1 hul v0 v1 v3 hvl st11
    have u1 := aw1.box.at (i := 1) rfl
    have hul := aw1.box.1
    have v1 := aw2.box.at (i := 1) rfl
    have v3 := aw2.box.at (i := 3) rfl
    have hvl := aw2.box.1
    rw [VC.Now, VC.seqK_eq]
    by_cases hr : M.ready = true ∧ MW.ready = false
    · rw [if_pos hr] at hsay
      rw [hr.2] at u1
      rw [hr.1] at v1
      simp -dsimp (maxSteps := 2000000) only [Fa.F111, rdB_of u1, u1, rdB_of v1, v1, rdI_of v3, v3, hul, hvl, undef, tu, uf, ul, ur, VC.Now, VC.vc, VC.lib, VC.mapN_drewN, VC.mapB_drewN, VC.regQ, VC.loopK, VC.reg, VC.opP, VC.opS, VC.opZ, VC.nomulB, VC.pv, VC.thenF, VC.blkF, VC.retF, VC.resV, VC.oneV, VC.evo, VC.bin, VC.binI, VC.cmpI, VC.arithI, VC.ldv, VC.slv, VC.pickP, VC.holds, VC.chainOf, VC.look, VC.junk, VC.put, VC.eff, VC.callee, VC.pureB, VC.rdK, VC.rdKs, VC.okKs, VC.eqKs, VC.fillL, VC.putL, VC.stW, VC.stOK, VC.mixF, VC.setAll, Nat.reduceAdd, Nat.reduceSub, Nat.reduceMul, if_true, if_false, ↓reduceIte, forall_const, implies_true, reduceCtorEq, ne_eq, Nat.reduceBNe, Nat.reduceBEq, IntKind.signed, Nat.reduceEqDiff, Nat.reduceLeDiff, Nat.reduceLT, eq_self, Int.reduceEq, Int.reduceLT, Int.reduceLE, Int.reduceAdd, Int.reduceSub, VC.regC_nil, VC.regC_cons, VC.regCK_eq, VC.callQ, VC.tailQ, VC.goCall, VC.chStep]
      intro u6
      refine CALL_by (dsend_any st2.hp (by show (s2.all ++ sendL n i 2 M.word).length + n ≤ 90000; rw [List.length_append, sendL_length]; omega) i 3 M.word) ?_
      rintro _ w12 ⟨rfl, v12, st12⟩
      refine ⟨_, rfl, ?_⟩
      rw [VC.Now, VC.seqK_eq]
      simp -dsimp (maxSteps := 2000000) only [Fa.F111, VC.Now, VC.vc, VC.lib, VC.mapN_drewN, VC.mapB_drewN, VC.regQ, VC.loopK, VC.reg, VC.opP, VC.opS, VC.opZ, VC.nomulB, VC.pv, VC.thenF, VC.blkF, VC.retF, VC.resV, VC.oneV, VC.evo, VC.bin, VC.binI, VC.cmpI, VC.arithI, VC.ldv, VC.slv, VC.pickP, VC.holds, VC.chainOf, VC.look, VC.junk, VC.put, VC.eff, VC.callee, VC.pureB, VC.rdK, VC.rdKs, VC.okKs, VC.eqKs, VC.fillL, VC.putL, VC.stW, VC.stOK, VC.mixF, VC.setAll, Nat.reduceAdd, Nat.reduceSub, Nat.reduceMul, if_true, if_false, ↓reduceIte, forall_const, implies_true, reduceCtorEq, ne_eq, Nat.reduceBNe, Nat.reduceBEq, IntKind.signed, Nat.reduceEqDiff, Nat.reduceLeDiff, Nat.reduceLT, eq_self, Int.reduceEq, Int.reduceLT, Int.reduceLE, Int.reduceAdd, Int.reduceSub, VC.regC_nil, VC.regC_cons, VC.regCK_eq, VC.callQ, VC.tailQ, VC.goCall, VC.chStep]
      refine ⟨v12, .slice A7 (s.came ++ [k]).length c7, ?_⟩
      rw [hbc, hsay, ← List.append_assoc]
      exact st2.trans st12
    · rw [if_neg hr, List.append_nil] at hsay
      simp -dsimp (maxSteps := 2000000) only [Fa.F111, rdB_of u1, u1, rdB_of v1, v1, rdI_of v3, v3, hul, hvl, undef, tu, uf, ul, ur, VC.Now, VC.vc, VC.lib, VC.mapN_drewN, VC.mapB_drewN, VC.regQ, VC.loopK, VC.reg, VC.opP, VC.opS, VC.opZ, VC.nomulB, VC.pv, VC.thenF, VC.blkF, VC.retF, VC.resV, VC.oneV, VC.evo, VC.bin, VC.binI, VC.cmpI, VC.arithI, VC.ldv, VC.slv, VC.pickP, VC.holds, VC.chainOf, VC.look, VC.junk, VC.put, VC.eff, VC.callee, VC.pureB, VC.rdK, VC.rdKs, VC.okKs, VC.eqKs, VC.fillL, VC.putL, VC.stW, VC.stOK, VC.mixF, VC.setAll, Nat.reduceAdd, Nat.reduceSub, Nat.reduceMul, if_true, if_false, ↓reduceIte, forall_const, implies_true, reduceCtorEq, ne_eq, Nat.reduceBNe, Nat.reduceBEq, IntKind.signed, Nat.reduceEqDiff, Nat.reduceLeDiff, Nat.reduceLT, eq_self, Int.reduceEq, Int.reduceLT, Int.reduceLE, Int.reduceAdd, Int.reduceSub, VC.regC_nil, VC.regC_cons, VC.regCK_eq, VC.callQ, VC.tailQ, VC.goCall, VC.chStep]
      refine fun u6 => ⟨fun h9 => absurd h9 hr, fun _ => ⟨v11, .slice A7 (s.came ++ [k]).length c7, ?_⟩⟩
      rw [hbc, hsay]
      exact st2
  · rw [if_neg he, List.nil_append] at hsay
    by_cases hr : M.ready = true ∧ MW.ready = false
    · rw [if_pos hr] at hsay
      rw [hr.2] at u1
      rw [hr.1] at v1
      simp -dsimp (maxSteps := 2000000) only [Fa.F111, rdB_of u0, u0, rdB_of v0, v0, rdB_of u1, u1, rdB_of v1, v1, rdI_of v3, v3, hul, hvl, undef, tu, uf, ul, ur, VC.Now, VC.vc, VC.lib, VC.mapN_drewN, VC.mapB_drewN, VC.regQ, VC.loopK, VC.reg, VC.opP, VC.opS, VC.opZ, VC.nomulB, VC.pv, VC.thenF, VC.blkF, VC.retF, VC.resV, VC.oneV, VC.evo, VC.bin, VC.binI, VC.cmpI, VC.arithI, VC.ldv, VC.slv, VC.pickP, VC.holds, VC.chainOf, VC.look, VC.junk, VC.put, VC.eff, VC.callee, VC.pureB, VC.rdK, VC.rdKs, VC.okKs, VC.eqKs, VC.fillL, VC.putL, VC.stW, VC.stOK, VC.mixF, VC.setAll, Nat.reduceAdd, Nat.reduceSub, Nat.reduceMul, if_true, if_false, ↓reduceIte, forall_const, implies_true, reduceCtorEq, ne_eq, Nat.reduceBNe, Nat.reduceBEq, IntKind.signed, Nat.reduceEqDiff, Nat.reduceLeDiff, Nat.reduceLT, eq_self, Int.reduceEq, Int.reduceLT, Int.reduceLE, Int.reduceAdd, Int.reduceSub, VC.regC_nil, VC.regC_cons, VC.regCK_eq, VC.callQ, VC.tailQ, VC.goCall, VC.chStep]
      refine fun u5 => ⟨fun h9 => absurd h9 he, fun _ u6 => ?_⟩
      refine CALL_by (dsend_any st2.hp (by omega) i 3 M.word) ?_
      rintro _ w12 ⟨rfl, v12, st12⟩
      refine ⟨_, rfl, ?_⟩
      rw [VC.Now, VC.seqK_eq]
      simp -dsimp (maxSteps := 2000000) only [Fa.F111, VC.Now, VC.vc, VC.lib, VC.mapN_drewN, VC.mapB_drewN, VC.regQ, VC.loopK, VC.reg, VC.opP, VC.opS, VC.opZ, VC.nomulB, VC.pv, VC.thenF, VC.blkF, VC.retF, VC.resV, VC.oneV, VC.evo, VC.bin, VC.binI, VC.cmpI, VC.arithI, VC.ldv, VC.slv, VC.pickP, VC.holds, VC.chainOf, VC.look, VC.junk, VC.put, VC.eff, VC.callee, VC.pureB, VC.rdK, VC.rdKs, VC.okKs, VC.eqKs, VC.fillL, VC.putL, VC.stW, VC.stOK, VC.mixF, VC.setAll, Nat.reduceAdd, Nat.reduceSub, Nat.reduceMul, if_true, if_false, ↓reduceIte, forall_const, implies_true, reduceCtorEq, ne_eq, Nat.reduceBNe, Nat.reduceBEq, IntKind.signed, Nat.reduceEqDiff, Nat.reduceLeDiff, Nat.reduceLT, eq_self, Int.reduceEq, Int.reduceLT, Int.reduceLE, Int.reduceAdd, Int.reduceSub, VC.regC_nil, VC.regC_cons, VC.regCK_eq, VC.callQ, VC.tailQ, VC.goCall, VC.chStep]
      refine ⟨v12, .slice A7 (s.came ++ [k]).length c7, ?_⟩
      rw [hbc, hsay]
      exact st2.trans st12
    · rw [if_neg hr] at hsay
      simp -dsimp (maxSteps := 2000000) only [Fa.F111, rdB_of u0, u0, rdB_of v0, v0, rdB_of u1, u1, rdB_of v1, v1, rdI_of v3, v3, hul, hvl, undef, tu, uf, ul, ur, VC.Now, VC.vc, VC.lib, VC.mapN_drewN, VC.mapB_drewN, VC.regQ, VC.loopK, VC.reg, VC.opP, VC.opS, VC.opZ, VC.nomulB, VC.pv, VC.thenF, VC.blkF, VC.retF, VC.resV, VC.oneV, VC.evo, VC.bin, VC.binI, VC.cmpI, VC.arithI, VC.ldv, VC.slv, VC.pickP, VC.holds, VC.chainOf, VC.look, VC.junk, VC.put, VC.eff, VC.callee, VC.pureB, VC.rdK, VC.rdKs, VC.okKs, VC.eqKs, VC.fillL, VC.putL, VC.stW, VC.stOK, VC.mixF, VC.setAll, Nat.reduceAdd, Nat.reduceSub, Nat.reduceMul, if_true, if_false, ↓reduceIte, forall_const, implies_true, reduceCtorEq, ne_eq, Nat.reduceBNe, Nat.reduceBEq, IntKind.signed, Nat.reduceEqDiff, Nat.reduceLeDiff, Nat.reduceLT, eq_self, Int.reduceEq, Int.reduceLT, Int.reduceLE, Int.reduceAdd, Int.reduceSub, VC.regC_nil, VC.regC_cons, VC.regCK_eq, VC.callQ, VC.tailQ, VC.goCall, VC.chStep]
      refine fun u5 => ⟨fun h9 => absurd h9 he, fun _ u6 => ⟨fun h9 => absurd h9 hr, fun _ => ⟨va, .slice A7 (s.came ++ [k]).length c7, ?_⟩⟩⟩
      rw [hbc, hsay, List.append_nil]
      exact st2
end
end Go.Proofs.Ytelfmhiaafkimaa
