/- One word for all, the document: where all lies; what came to one; what is sent to all. -/
import Derived.Test.YtelfmhiaafkimaaBra2
import Derived.Test.YtelfmhiaafkimaaAway
namespace Go.Proofs.Ytelfmhiaafkimaa
open Go Go.RowKit Go.VC
set_option linter.unusedSimpArgs false
set_option linter.unusedVariables false
section
variable (n f liars sender : Nat)
abbrev spreC (va vc : Value) (st : Bool) : List Value := [iV n, iV f, iV sender, .int .u32 liars, va, vc, .bool st]
noncomputable abbrev SObs (sb : Nat) (s : BS) (va vc : Value) : List Ob :=
  [oBox sb (spreC n f liars sender va vc s.started), oOwn 280 5 s.all.length va (s.all.flatMap noteL), oOwn 3 1 s.came.length vc (s.came.map fun (k : Nat) => iV k)]
end
section
variable {B n f liars sender sb t : Nat} {s : BS} {va vc : Value} {w : World}
theorem so_all (h : Hp B (SObs n f liars sender sb s va vc) w) {k : Nat} (hk : k < s.all.length) : ∃ g c, va = .slice (some ⟨g, 0, none⟩) s.all.length c ∧ g < w.heap.size ∧ (∀ j v, (noteL (s.all.getD k note0))[j]? = some v → w.cell? ⟨g, k * 5 + j, none⟩ = some v) ∧ ∀ j, j < 5 → w.frozen? ⟨g, k * 5 + j, none⟩ = false := by
  have ho : OwnK w 0 280 5 s.all.length va (s.all.flatMap noteL) := h.get 1 rfl
  obtain ⟨g, c, e, _, hg⟩ := ho.form (by omega)
  rw [e] at ho
  have e1 : s.all.getD k note0 = s.all[k] := by simp [List.getD, hk]
  refine ⟨g, c, e, hg, fun j v hv => ?_, fun j hj => (ho.cellL noteL_len hk hj).2⟩
  have hj : j < 5 := by
    have := (List.getElem?_eq_some_iff.1 hv).1
    rw [noteL_len] at this; exact this
  rw [(ho.cellL noteL_len hk hj).1, ← e1, hv]
theorem so_came (h : Hp B (SObs n f liars sender sb s va vc) w) {j : Nat} (hj : j < s.came.length) : ∃ g c, vc = .slice (some ⟨g, 0, none⟩) s.came.length c ∧ g < w.heap.size ∧ w.cell? ⟨g, j, none⟩ = some (iV (s.came.getD j 0)) := by
  have ho : OwnK w 0 3 1 s.came.length vc (s.came.map fun (k : Nat) => iV k) := h.get 2 rfl
  obtain ⟨g, c, e, _, hg⟩ := ho.form (by omega)
  rw [e] at ho
  refine ⟨g, c, e, hg, ?_⟩
  rw [(ho.at (j := j) (by omega)).1, List.getElem?_map, List.getElem?_eq_getElem hj]
  simp [List.getD, hj]
/-- Of the first k that came, those that came to one. -/
def toK (s : BS) (i k : Nat) : List Note := ((s.came.take k).map fun k => s.all.getD k note0).filter fun x => decide (x.to = (i : Int))
theorem toK_succ {s : BS} {i k : Nat} (hk : k < s.came.length) : toK s i (k + 1) = toK s i k ++ if (s.all.getD (s.came.getD k 0) note0).to = (i : Int) then [s.all.getD (s.came.getD k 0) note0] else [] := by
  unfold toK
  have : s.came.getD k 0 = s.came[k] := by simp [List.getD, hk]
  rw [List.take_succ_eq_append_getElem hk, List.map_append, List.filter_append, this]
  congr 1
  simp only [List.map_cons, List.map_nil]
  by_cases h : (s.all.getD s.came[k] note0).to = (i : Int)
  · rw [if_pos h, List.filter_cons_of_pos (by simpa using h)]; rfl
  · rw [if_neg h, List.filter_cons_of_neg (by simpa using h)]; rfl
theorem toK_all (s : BS) (i : Nat) : toK s i s.came.length = toL s i := by unfold toK toL; rw [List.take_length]
theorem toK_le (s : BS) (i k : Nat) : (toK s i k).length ≤ s.came.length := by
  unfold toK
  refine Nat.le_trans (List.length_filter_le _ _) ?_
  rw [List.length_map, List.length_take]; omega
set_option maxRecDepth 8000 in
set_option maxHeartbeats 4000000 in
theorem to_any (h : Hp B (SObs n f liars sender sb s va vc) w) (hok : ∀ k ∈ s.came, k < s.all.length) (hlen : s.came.length ≤ 50000) (i : Nat) :
    Calls Try.prog 79 #[ptrV sb, iV i] w fun e w' => ∃ A c, e = .returned (.slice A (toL s i).length c) ∧ RdT w' A (toL s i).length 5 (fun j => noteL ((toL s i).getD j note0)) ∧ Below w.heap.size w w' := by
  have bs : Box w sb (spreC n f liars sender va vc s.started) := h.get 0 rfl
  obtain ⟨Ac, cc, ec, _⟩ := id (h.get 2 rfl : OwnK w 0 3 1 s.came.length vc _)
  have b5 := bs.at (i := 5) rfl
  rw [ec] at b5
  have hsl := bs.1
  refine calls_vc (rs := [.tmp 4]) Fa.mix Try.func79 rfl Try.ntmps79 rfl (by kernel_rfl) (Nat.le_of_ble_eq_true rfl) ?_
  simp -dsimp (maxSteps := 2000000) only [Fa.F79, rdSA_of b5, rdSN_of b5, rdSC_of b5, b5, hsl, VC.Now, VC.vc, VC.lib, VC.mapN_drewN, VC.mapB_drewN, VC.regQ, VC.loopK, VC.reg, VC.opP, VC.opS, VC.opZ, VC.nomulB, VC.pv, VC.thenF, VC.blkF, VC.retF, VC.resV, VC.oneV, VC.evo, VC.bin, VC.binI, VC.cmpI, VC.arithI, VC.ldv, VC.slv, VC.pickP, VC.holds, VC.chainOf, VC.look, VC.junk, VC.put, VC.eff, VC.callee, VC.pureB, VC.rdK, VC.rdKs, VC.okKs, VC.eqKs, VC.fillL, VC.putL, VC.stW, VC.stOK, VC.mixF, VC.setAll, Nat.reduceAdd, Nat.reduceSub, Nat.reduceMul, if_true, if_false, ↓reduceIte, forall_const, implies_true, reduceCtorEq, ne_eq, Nat.reduceBNe, Nat.reduceBEq, IntKind.signed, Nat.reduceEqDiff, Nat.reduceLeDiff, Nat.reduceLT, eq_self, Int.reduceEq, Int.reduceLT, Int.reduceLE, Int.reduceAdd, Int.reduceSub, VC.regC_nil, VC.regC_cons, VC.regCK_eq, VC.callQ, VC.tailQ, VC.goCall, VC.chStep]
  refine loop_slots Fa.mix [5, 13] [7, 14, 15, 16, 17, 18, 19, 20, 21, 22, 23, 24, 25, 26, 27, 28, 29, 30, 31, 32, 33, 34, 35, 36, 37] (fun m vs wr => ∃ (k : Nat) (v : Value), k + m = s.came.length ∧ vs = [v, .int .i64 k] ∧ Below w.heap.size w wr ∧ OwnK wr w.heap.size 280 5 (toK s i k).length v ((toK s i k).flatMap noteL)) s.came.length (by kernel_rfl) rfl
    ⟨0, nilS, by omega, rfl, Below.refl _ _, OwnK.nil _ _ _ _⟩ ?_
  rintro m vs u wr ⟨k, v, hkm, rfl, hB, hO⟩
  by_cases hk : k < s.came.length
  case neg =>
    have e1 : ((k : Int) < (s.came.length : Int)) = False := eq_false (by omega)
    obtain rfl : k = s.came.length := by omega
    rw [toK_all] at hO
    obtain ⟨A, c, rfl, _⟩ := id hO
    simp -dsimp (maxSteps := 2000000) only [Fa.F79, e1, VC.Now, VC.vc, VC.lib, VC.mapN_drewN, VC.mapB_drewN, VC.regQ, VC.loopK, VC.reg, VC.opP, VC.opS, VC.opZ, VC.nomulB, VC.pv, VC.thenF, VC.blkF, VC.retF, VC.resV, VC.oneV, VC.evo, VC.bin, VC.binI, VC.cmpI, VC.arithI, VC.ldv, VC.slv, VC.pickP, VC.holds, VC.chainOf, VC.look, VC.junk, VC.put, VC.eff, VC.callee, VC.pureB, VC.rdK, VC.rdKs, VC.okKs, VC.eqKs, VC.fillL, VC.putL, VC.stW, VC.stOK, VC.mixF, VC.setAll, Nat.reduceAdd, Nat.reduceSub, Nat.reduceMul, if_true, if_false, ↓reduceIte, forall_const, implies_true, reduceCtorEq, ne_eq, Nat.reduceBNe, Nat.reduceBEq, IntKind.signed, Nat.reduceEqDiff, Nat.reduceLeDiff, Nat.reduceLT, eq_self, Int.reduceEq, Int.reduceLT, Int.reduceLE, Int.reduceAdd, Int.reduceSub, VC.regC_nil, VC.regC_cons, VC.regCK_eq, VC.callQ, VC.tailQ, VC.goCall, VC.chStep]
    exact ⟨_, _, rfl, RdT.ownL hO noteL_len note0, hB⟩
  have e1 : ((k : Int) < (s.came.length : Int)) = True := eq_true (by omega)
  have hH := h.below hB
  obtain ⟨gc, cc2, e2, hgc, hcell⟩ := so_came hH hk
  rw [ec] at e2
  simp only [Value.slice.injEq] at e2
  obtain ⟨rfl, _, rfl⟩ := e2
  have hkc : s.came.getD k 0 < s.all.length := hok _ (mem_getD hk)
  have hts := toK_succ (i := i) hk
  have htl := toK_le s i k
  generalize s.came.getD k 0 = q at *
  obtain ⟨g, c, ea, hg, hac, _⟩ := so_all hH hkc
  have bs' : Box wr sb (spreC n f liars sender va vc s.started) := hH.get 0 rfl
  have b4 := bs'.at (i := 4) rfl
  rw [ea] at b4
  have hsl' := bs'.1
  have m0 := hac 0 _ rfl
  have m1 := hac 1 _ rfl
  have m2 := hac 2 _ rfl
  have m3 := hac 3 _ rfl
  have m4 := hac 4 _ rfl
  rw [Nat.add_zero] at m0
  generalize s.all.getD q note0 = x at *
  by_cases hx : x.to = (i : Int)
  · have e3 := eq_true hx
    rw [if_pos hx] at hts
    simp -dsimp (maxSteps := 2000000) only [Fa.F79, e1, rdI_of hcell, hcell, hgc, rdSA_of b4, rdSN_of b4, rdSC_of b4, b4, hsl', rdI_of m0, m0, rdI_of m1, m1, rdI_of m2, m2, rdI_of m3, m3, rdB_of m4, m4, hg, e3, Int.toNat_natCast, Nat.zero_add, VC.Now, VC.vc, VC.lib, VC.mapN_drewN, VC.mapB_drewN, VC.regQ, VC.loopK, VC.reg, VC.opP, VC.opS, VC.opZ, VC.nomulB, VC.pv, VC.thenF, VC.blkF, VC.retF, VC.resV, VC.oneV, VC.evo, VC.bin, VC.binI, VC.cmpI, VC.arithI, VC.ldv, VC.slv, VC.pickP, VC.holds, VC.chainOf, VC.look, VC.junk, VC.put, VC.eff, VC.callee, VC.pureB, VC.rdK, VC.rdKs, VC.okKs, VC.eqKs, VC.fillL, VC.putL, VC.stW, VC.stOK, VC.mixF, VC.setAll, Nat.reduceAdd, Nat.reduceSub, Nat.reduceMul, if_true, if_false, ↓reduceIte, forall_const, implies_true, reduceCtorEq, ne_eq, Nat.reduceBNe, Nat.reduceBEq, IntKind.signed, Nat.reduceEqDiff, Nat.reduceLeDiff, Nat.reduceLT, eq_self, Int.reduceEq, Int.reduceLT, Int.reduceLE, Int.reduceAdd, Int.reduceSub, VC.regC_nil, VC.regC_cons, VC.regCK_eq, VC.callQ, VC.tailQ, VC.goCall, VC.chStep]
    refine ⟨by omega, ⟨by omega, by omega⟩, ⟨by omega, by omega⟩, ?_⟩
    refine OPW_appK (B := w.heap.size) (us := noteL x) rfl Fa.apI231 rfl rfl rfl (by simp [Value.oneCell']) hO hB.size (by omega) (by decide) fun v7 w7 ho7 hg7 hs7 => ?_
    have hB7 := hB.grown hg7 hB.size (fun g hg => (hO.lt hg).1)
    have e7 : (toK s i k ++ [x]).flatMap noteL = (toK s i k).flatMap noteL ++ noteL x := by rw [List.flatMap_append]; simp
    have ho8 : OwnK w7 w.heap.size 280 5 (toK s i k ++ [x]).length v7 ((toK s i k ++ [x]).flatMap noteL) := by rw [e7, List.length_append]; exact ho7
    rw [← hts] at ho8
    rw [VC.Now, VC.seqK_eq]
    simp -dsimp (maxSteps := 2000000) only [Fa.F79, VC.Now, VC.vc, VC.lib, VC.mapN_drewN, VC.mapB_drewN, VC.regQ, VC.loopK, VC.reg, VC.opP, VC.opS, VC.opZ, VC.nomulB, VC.pv, VC.thenF, VC.blkF, VC.retF, VC.resV, VC.oneV, VC.evo, VC.bin, VC.binI, VC.cmpI, VC.arithI, VC.ldv, VC.slv, VC.pickP, VC.holds, VC.chainOf, VC.look, VC.junk, VC.put, VC.eff, VC.callee, VC.pureB, VC.rdK, VC.rdKs, VC.okKs, VC.eqKs, VC.fillL, VC.putL, VC.stW, VC.stOK, VC.mixF, VC.setAll, Nat.reduceAdd, Nat.reduceSub, Nat.reduceMul, if_true, if_false, ↓reduceIte, forall_const, implies_true, reduceCtorEq, ne_eq, Nat.reduceBNe, Nat.reduceBEq, IntKind.signed, Nat.reduceEqDiff, Nat.reduceLeDiff, Nat.reduceLT, eq_self, Int.reduceEq, Int.reduceLT, Int.reduceLE, Int.reduceAdd, Int.reduceSub, VC.regC_nil, VC.regC_cons, VC.regCK_eq, VC.callQ, VC.tailQ, VC.goCall, VC.chStep]
    exact ⟨fits_i64_nat (by omega), SAME.intro (by kernel_rfl), m - 1, by omega, k + 1, v7, by omega, rfl, hB7, ho8⟩
  · have e3 := eq_false hx
    rw [if_neg hx, List.append_nil] at hts
    simp -dsimp (maxSteps := 2000000) only [Fa.F79, e1, rdI_of hcell, hcell, hgc, rdSA_of b4, rdSN_of b4, rdSC_of b4, b4, hsl', rdI_of m1, m1, hg, e3, Int.toNat_natCast, Nat.zero_add, VC.Now, VC.vc, VC.lib, VC.mapN_drewN, VC.mapB_drewN, VC.regQ, VC.loopK, VC.reg, VC.opP, VC.opS, VC.opZ, VC.nomulB, VC.pv, VC.thenF, VC.blkF, VC.retF, VC.resV, VC.oneV, VC.evo, VC.bin, VC.binI, VC.cmpI, VC.arithI, VC.ldv, VC.slv, VC.pickP, VC.holds, VC.chainOf, VC.look, VC.junk, VC.put, VC.eff, VC.callee, VC.pureB, VC.rdK, VC.rdKs, VC.okKs, VC.eqKs, VC.fillL, VC.putL, VC.stW, VC.stOK, VC.mixF, VC.setAll, Nat.reduceAdd, Nat.reduceSub, Nat.reduceMul, if_true, if_false, ↓reduceIte, forall_const, implies_true, reduceCtorEq, ne_eq, Nat.reduceBNe, Nat.reduceBEq, IntKind.signed, Nat.reduceEqDiff, Nat.reduceLeDiff, Nat.reduceLT, eq_self, Int.reduceEq, Int.reduceLT, Int.reduceLE, Int.reduceAdd, Int.reduceSub, VC.regC_nil, VC.regC_cons, VC.regCK_eq, VC.callQ, VC.tailQ, VC.goCall, VC.chStep]
    exact ⟨by omega, ⟨by omega, by omega⟩, fits_i64_nat (by omega), SAME.intro (by kernel_rfl), m - 1, by omega, k + 1, v, by omega, rfl, hB, by rw [hts]; exact hO⟩
set_option maxRecDepth 8000 in
set_option maxHeartbeats 4000000 in
theorem dsend_any (h : Hp B (SObs n f liars sender sb s va vc) w) (hlen : s.all.length + n ≤ 90000) (i what v : Int) :
    Calls Try.prog 110 #[ptrV sb, iV i, iV what, iV v] w fun e w' => e = .returned (.tuple #[]) ∧ ∃ va', St B (SObs n f liars sender sb s va vc) w (SObs n f liars sender sb { s with all := s.all ++ sendL n i what v } va' vc) w' := by
  refine calls_vc (rs := []) Fa.mix Try.func110 rfl Try.ntmps110 rfl (by kernel_rfl) (Nat.le_of_ble_eq_true rfl) ?_
  simp -dsimp (maxSteps := 2000000) only [Fa.F110, VC.Now, VC.vc, VC.lib, VC.mapN_drewN, VC.mapB_drewN, VC.regQ, VC.loopK, VC.reg, VC.opP, VC.opS, VC.opZ, VC.nomulB, VC.pv, VC.thenF, VC.blkF, VC.retF, VC.resV, VC.oneV, VC.evo, VC.bin, VC.binI, VC.cmpI, VC.arithI, VC.ldv, VC.slv, VC.pickP, VC.holds, VC.chainOf, VC.look, VC.junk, VC.put, VC.eff, VC.callee, VC.pureB, VC.rdK, VC.rdKs, VC.okKs, VC.eqKs, VC.fillL, VC.putL, VC.stW, VC.stOK, VC.mixF, VC.setAll, Nat.reduceAdd, Nat.reduceSub, Nat.reduceMul, if_true, if_false, ↓reduceIte, forall_const, implies_true, reduceCtorEq, ne_eq, Nat.reduceBNe, Nat.reduceBEq, IntKind.signed, Nat.reduceEqDiff, Nat.reduceLeDiff, Nat.reduceLT, eq_self, Int.reduceEq, Int.reduceLT, Int.reduceLE, Int.reduceAdd, Int.reduceSub, VC.regC_nil, VC.regC_cons, VC.regCK_eq, VC.callQ, VC.tailQ, VC.goCall, VC.chStep]
  refine loop_slots Fa.mix [8] [9, 10, 11, 12, 13, 14, 15, 16, 17, 18, 19, 20, 21, 22, 23, 24, 25, 26, 27, 28, 29, 30] (fun m vs wr => ∃ (k : Nat) (va' : Value), k + m = n ∧ vs = [.int .i64 k] ∧ St B (SObs n f liars sender sb s va vc) w (SObs n f liars sender sb { s with all := s.all ++ sendL k i what v } va' vc) wr) n (by kernel_rfl) rfl
    ⟨0, va, by omega, rfl, by rw [show sendL 0 i what v = [] from rfl, List.append_nil]; exact St.refl h⟩ ?_
  rintro m vs u wr ⟨k, va', hkm, rfl, st⟩
  have hH := st.hp
  have bs : Box wr sb (spreC n f liars sender va' vc s.started) := hH.get 0 rfl
  have b0 := bs.at (i := 0) rfl
  have hwl := bs.1
  by_cases hk : k < n
  · have e1 : ((k : Int) < n) = True := eq_true (by omega)
    have ho : OwnK wr 0 280 5 (s.all ++ sendL k i what v).length va' ((s.all ++ sendL k i what v).flatMap noteL) := hH.get 1 rfl
    obtain ⟨A, c, rfl, _⟩ := id ho
    have b4 := bs.at (i := 4) rfl
    simp -dsimp (maxSteps := 2000000) only [Fa.F110, e1, rdI_of b0, b0, rdSA_of b4, rdSN_of b4, rdSC_of b4, b4, hwl, VC.Now, VC.vc, VC.lib, VC.mapN_drewN, VC.mapB_drewN, VC.regQ, VC.loopK, VC.reg, VC.opP, VC.opS, VC.opZ, VC.nomulB, VC.pv, VC.thenF, VC.blkF, VC.retF, VC.resV, VC.oneV, VC.evo, VC.bin, VC.binI, VC.cmpI, VC.arithI, VC.ldv, VC.slv, VC.pickP, VC.holds, VC.chainOf, VC.look, VC.junk, VC.put, VC.eff, VC.callee, VC.pureB, VC.rdK, VC.rdKs, VC.okKs, VC.eqKs, VC.fillL, VC.putL, VC.stW, VC.stOK, VC.mixF, VC.setAll, Nat.reduceAdd, Nat.reduceSub, Nat.reduceMul, if_true, if_false, ↓reduceIte, forall_const, implies_true, reduceCtorEq, ne_eq, Nat.reduceBNe, Nat.reduceBEq, IntKind.signed, Nat.reduceEqDiff, Nat.reduceLeDiff, Nat.reduceLT, eq_self, Int.reduceEq, Int.reduceLT, Int.reduceLE, Int.reduceAdd, Int.reduceSub, VC.regC_nil, VC.regC_cons, VC.regCK_eq, VC.callQ, VC.tailQ, VC.goCall, VC.chStep]
    refine OPW_appK (us := [iV i, iV k, iV what, iV v, .bool false]) rfl Fa.apI231 rfl rfl rfl (by simp [Value.oneCell']) ho (Nat.zero_le _) (by rw [List.length_append, sendL_length]; omega) (by decide) fun v7 w7 ho7 hg7 hs7 => ?_
    have e7 : (s.all ++ sendL (k + 1) i what v).flatMap noteL = (s.all ++ sendL k i what v).flatMap noteL ++ [iV i, iV k, iV what, iV v, .bool false] := by
      rw [sendL_succ, ← List.append_assoc, List.flatMap_append]; rfl
    have e8 : (s.all ++ sendL (k + 1) i what v).length = (s.all ++ sendL k i what v).length + 1 := by
      rw [sendL_succ, ← List.append_assoc, List.length_append]; rfl
    have ho8 : OwnK w7 0 280 5 (s.all ++ sendL (k + 1) i what v).length v7 ((s.all ++ sendL (k + 1) i what v).flatMap noteL) := by rw [e7, e8]; exact ho7
    obtain ⟨⟨g1, g2⟩, st7⟩ := hH.growField 0 1 rfl rfl (by decide) ho8 hg7 hs7 4 (by show 4 < 7; omega)
    have hwl7 : sb < w7.heap.size := by have := hg7.size; omega
    obtain ⟨A7, c7, rfl, _⟩ := id ho8
    rw [VC.Now, VC.seqK_eq]
    simp -dsimp (maxSteps := 2000000) only [Fa.F110, g1, g2, hwl7, VC.Now, VC.vc, VC.lib, VC.mapN_drewN, VC.mapB_drewN, VC.regQ, VC.loopK, VC.reg, VC.opP, VC.opS, VC.opZ, VC.nomulB, VC.pv, VC.thenF, VC.blkF, VC.retF, VC.resV, VC.oneV, VC.evo, VC.bin, VC.binI, VC.cmpI, VC.arithI, VC.ldv, VC.slv, VC.pickP, VC.holds, VC.chainOf, VC.look, VC.junk, VC.put, VC.eff, VC.callee, VC.pureB, VC.rdK, VC.rdKs, VC.okKs, VC.eqKs, VC.fillL, VC.putL, VC.stW, VC.stOK, VC.mixF, VC.setAll, Nat.reduceAdd, Nat.reduceSub, Nat.reduceMul, if_true, if_false, ↓reduceIte, forall_const, implies_true, reduceCtorEq, ne_eq, Nat.reduceBNe, Nat.reduceBEq, IntKind.signed, Nat.reduceEqDiff, Nat.reduceLeDiff, Nat.reduceLT, eq_self, Int.reduceEq, Int.reduceLT, Int.reduceLE, Int.reduceAdd, Int.reduceSub, VC.regC_nil, VC.regC_cons, VC.regCK_eq, VC.callQ, VC.tailQ, VC.goCall, VC.chStep]
    exact ⟨fits_i64_nat (by omega), SAME.intro (by kernel_rfl), m - 1, by omega, k + 1, _, by omega, rfl, st.trans st7⟩
  · obtain rfl : k = n := by omega
    have e1 : ((k : Int) < k) = False := eq_false (by omega)
    simp -dsimp (maxSteps := 2000000) only [Fa.F110, e1, rdI_of b0, b0, hwl, VC.Now, VC.vc, VC.lib, VC.mapN_drewN, VC.mapB_drewN, VC.regQ, VC.loopK, VC.reg, VC.opP, VC.opS, VC.opZ, VC.nomulB, VC.pv, VC.thenF, VC.blkF, VC.retF, VC.resV, VC.oneV, VC.evo, VC.bin, VC.binI, VC.cmpI, VC.arithI, VC.ldv, VC.slv, VC.pickP, VC.holds, VC.chainOf, VC.look, VC.junk, VC.put, VC.eff, VC.callee, VC.pureB, VC.rdK, VC.rdKs, VC.okKs, VC.eqKs, VC.fillL, VC.putL, VC.stW, VC.stOK, VC.mixF, VC.setAll, Nat.reduceAdd, Nat.reduceSub, Nat.reduceMul, if_true, if_false, ↓reduceIte, forall_const, implies_true, reduceCtorEq, ne_eq, Nat.reduceBNe, Nat.reduceBEq, IntKind.signed, Nat.reduceEqDiff, Nat.reduceLeDiff, Nat.reduceLT, eq_self, Int.reduceEq, Int.reduceLT, Int.reduceLE, Int.reduceAdd, Int.reduceSub, VC.regC_nil, VC.regC_cons, VC.regCK_eq, VC.callQ, VC.tailQ, VC.goCall, VC.chStep]
    exact ⟨va', st⟩
end
end Go.Proofs.Ytelfmhiaafkimaa
