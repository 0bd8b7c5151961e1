/- A choice, the document's: what was promised, and taken; how many; a ballot of a list. -/
import Derived.Test.YtelfmhiaafkimaaPax1
import Derived.Test.YtelfmhiaafkimaaAppM
import Derived.Test.YtelfmhiaafkimaaRefHas
namespace Go.Proofs.Ytelfmhiaafkimaa
open Go Go.RowKit Go.VC
set_option linter.unusedSimpArgs false
set_option linter.unusedVariables false
abbrev vowL (v : Vow) : List Value := [.int .i64 v.b, .int .i64 v.who, .int .i64 v.told.n, .int .i64 v.told.v]
def vow0 : Vow := ⟨0, 0, bal0⟩
theorem take_last {α : Type} {l : List α} {k : Nat} (hk : k < l.length) (d : α) : l.take (k + 1) = l.take k ++ [l.getD k d] := by
  rw [List.take_succ_eq_append_getElem hk, List.getD_eq_getElem?_getD, List.getElem?_eq_getElem hk]; rfl
theorem proL_snoc (l : List Vow) (v : Vow) (who : Int) : proL (l ++ [v]) who = proF who (proL l who) v := by unfold proL; rw [List.foldl_append]; rfl
section
variable {w : World} {mb : Nat} {A A' : Option Addr} {c c' : Nat} {V T : List Vow}

set_option maxRecDepth 8000 in
set_option maxHeartbeats 4000000 in
theorem promised_any (h2 : w.cell? ⟨mb, 2, none⟩ = some (.slice A V.length c)) (h3 : w.cell? ⟨mb, 3, none⟩ = some (.slice A' T.length c')) (hml : mb < w.heap.size)
    (hV : RdC w A (V.flatMap vowL)) (hT : RdC w A' (T.flatMap vowL)) (hl : V.length + T.length ≤ 1000) (who : Int) :
    Calls Try.prog 48 #[ptrV mb, .int .i64 who] w fun e w' => e = .returned (.int .i64 (proL (V ++ T) who)) ∧ Below w.heap.size w w' := by
  refine calls_vc (rs := [.tmp 4]) Fa.mix Try.func48 rfl Try.ntmps48 rfl (by kernel_rfl) (Nat.le_of_ble_eq_true rfl) ?_
  (repeat rw [vc_seq]); refine vc_plain _ fun Q hQ => ?_; simp -dsimp only [Fa.F48, VC.Now, VC.vc_skip, VC.vc_ret, VC.vc_exit, VC.vc_block, VC.vc_cond, VC.vc_region, VC.lib, VC.mapN_drewN, VC.mapB_drewN, VC.regQ, VC.loopK, VC.reg, VC.opP, VC.pv, VC.thenF, VC.blkF, VC.retF, VC.resV, VC.oneV, VC.evo, VC.bin, VC.binI, VC.cmpI, VC.arithI, VC.ldv, VC.slv, VC.pickP, VC.holds, VC.chainOf, VC.look, VC.junk, VC.put, VC.eff, VC.callee, VC.pureB, VC.rdK, VC.rdKs, VC.okKs, VC.eqKs, VC.fillL, VC.putL, VC.stW, VC.stOK, VC.mixF, VC.setAll, Nat.reduceAdd, Nat.reduceSub, Nat.reduceMul, if_true, if_false, ↓reduceIte, forall_const, implies_true, reduceCtorEq, ne_eq, Nat.reduceBNe, Nat.reduceBEq, IntKind.signed, Nat.reduceEqDiff, Nat.reduceLeDiff, Nat.reduceLT, eq_self, Int.reduceEq, Int.reduceLT, Int.reduceLE, Int.reduceAdd, Int.reduceSub, VC.regC_nil, VC.regC_cons, VC.regCK_eq, VC.callQ, VC.tailQ, VC.goCall, VC.chStep]
  subst hQ; simp -dsimp only [VC.Now, VC.vc_skip, VC.vc_ret, VC.vc_exit, VC.vc_block, VC.vc_cond, VC.vc_region, VC.lib, VC.mapN_drewN, VC.mapB_drewN, VC.regQ, VC.loopK, VC.reg, VC.opP, VC.pv, VC.thenF, VC.blkF, VC.retF, VC.resV, VC.oneV, VC.evo, VC.bin, VC.binI, VC.cmpI, VC.arithI, VC.ldv, VC.slv, VC.pickP, VC.holds, VC.chainOf, VC.look, VC.junk, VC.put, VC.eff, VC.callee, VC.pureB, VC.rdK, VC.rdKs, VC.okKs, VC.eqKs, VC.fillL, VC.putL, VC.stW, VC.stOK, VC.mixF, VC.setAll, Nat.reduceAdd, Nat.reduceSub, Nat.reduceMul, if_true, if_false, ↓reduceIte, forall_const, implies_true, reduceCtorEq, ne_eq, Nat.reduceBNe, Nat.reduceBEq, IntKind.signed, Nat.reduceEqDiff, Nat.reduceLeDiff, Nat.reduceLT, eq_self, Int.reduceEq, Int.reduceLT, Int.reduceLE, Int.reduceAdd, Int.reduceSub, VC.regC_nil, VC.regC_cons, VC.regCK_eq, VC.callQ, VC.tailQ, VC.goCall, VC.chStep]; (repeat rw [vc_seq]); refine vc_plain _ fun Q hQ => ?_; simp -dsimp only [Fa.F48, VC.Now, VC.vc_skip, VC.vc_ret, VC.vc_exit, VC.vc_block, VC.vc_cond, VC.vc_region, VC.lib, VC.mapN_drewN, VC.mapB_drewN, VC.regQ, VC.loopK, VC.reg, VC.opP, VC.pv, VC.thenF, VC.blkF, VC.retF, VC.resV, VC.oneV, VC.evo, VC.bin, VC.binI, VC.cmpI, VC.arithI, VC.ldv, VC.slv, VC.pickP, VC.holds, VC.chainOf, VC.look, VC.junk, VC.put, VC.eff, VC.callee, VC.pureB, VC.rdK, VC.rdKs, VC.okKs, VC.eqKs, VC.fillL, VC.putL, VC.stW, VC.stOK, VC.mixF, VC.setAll, Nat.reduceAdd, Nat.reduceSub, Nat.reduceMul, if_true, if_false, ↓reduceIte, forall_const, implies_true, reduceCtorEq, ne_eq, Nat.reduceBNe, Nat.reduceBEq, IntKind.signed, Nat.reduceEqDiff, Nat.reduceLeDiff, Nat.reduceLT, eq_self, Int.reduceEq, Int.reduceLT, Int.reduceLE, Int.reduceAdd, Int.reduceSub, VC.regC_nil, VC.regC_cons, VC.regCK_eq, VC.callQ, VC.tailQ, VC.goCall, VC.chStep]
  subst hQ
  simp -dsimp only [Fa.F48, VC.Now, VC.vc_skip, VC.vc_ret, VC.vc_exit, VC.vc_block, VC.vc_cond, VC.vc_region, VC.lib, VC.mapN_drewN, VC.mapB_drewN, VC.regQ, VC.loopK, VC.reg, VC.opP, VC.pv, VC.thenF, VC.blkF, VC.retF, VC.resV, VC.oneV, VC.evo, VC.bin, VC.binI, VC.cmpI, VC.arithI, VC.ldv, VC.slv, VC.pickP, VC.holds, VC.chainOf, VC.look, VC.junk, VC.put, VC.eff, VC.callee, VC.pureB, VC.rdK, VC.rdKs, VC.okKs, VC.eqKs, VC.fillL, VC.putL, VC.stW, VC.stOK, VC.mixF, VC.setAll, Nat.reduceAdd, Nat.reduceSub, Nat.reduceMul, if_true, if_false, ↓reduceIte, forall_const, implies_true, reduceCtorEq, ne_eq, Nat.reduceBNe, Nat.reduceBEq, IntKind.signed, Nat.reduceEqDiff, Nat.reduceLeDiff, Nat.reduceLT, eq_self, Int.reduceEq, Int.reduceLT, Int.reduceLE, Int.reduceAdd, Int.reduceSub, VC.regC_nil, VC.regC_cons, VC.regCK_eq, VC.callQ, VC.tailQ, VC.goCall, VC.chStep]
  (repeat rw [vc_seq]); refine vc_plain _ fun Q hQ => ?_; simp -dsimp only [Fa.F48, VC.Now, VC.vc_skip, VC.vc_ret, VC.vc_exit, VC.vc_block, VC.vc_cond, VC.vc_region, VC.lib, VC.mapN_drewN, VC.mapB_drewN, VC.regQ, VC.loopK, VC.reg, VC.opP, VC.pv, VC.thenF, VC.blkF, VC.retF, VC.resV, VC.oneV, VC.evo, VC.bin, VC.binI, VC.cmpI, VC.arithI, VC.ldv, VC.slv, VC.pickP, VC.holds, VC.chainOf, VC.look, VC.junk, VC.put, VC.eff, VC.callee, VC.pureB, VC.rdK, VC.rdKs, VC.okKs, VC.eqKs, VC.fillL, VC.putL, VC.stW, VC.stOK, VC.mixF, VC.setAll, Nat.reduceAdd, Nat.reduceSub, Nat.reduceMul, if_true, if_false, ↓reduceIte, forall_const, implies_true, reduceCtorEq, ne_eq, Nat.reduceBNe, Nat.reduceBEq, IntKind.signed, Nat.reduceEqDiff, Nat.reduceLeDiff, Nat.reduceLT, eq_self, Int.reduceEq, Int.reduceLT, Int.reduceLE, Int.reduceAdd, Int.reduceSub, VC.regC_nil, VC.regC_cons, VC.regCK_eq, VC.callQ, VC.tailQ, VC.goCall, VC.chStep]
  have hd1 : Below w.heap.size w (w.drewN 1) := below_drewN (Below.refl _ w) 1
  refine WP_held 99 (fun j => w.heap.size ≤ j) (.take 12 (.take 1 (.take 2 (.take 3 (.take 4 (.take 6 (.take 7 (.take 8 (.take 9 (.one 0 (.one 5 (.one 10 (.one 11 .done))))))))))))) Fa.mix (by kernel_rfl) rfl ?_
  simp -dsimp only [VC.heldF_done, VC.heldF_last, VC.planF_done, VC.planF_take, VC.planF_one, VC.planF_two, VC.planK_eq, VC.heldF_take, VC.heldF_one, VC.heldF_two, VC.heldF_twoL, VC.heldK_eq, VC.okRd, Fa.F48, rdSA_of h2, rdSN_of h2, rdSC_of h2, h2, rdSA_of h3, rdSN_of h3, rdSC_of h3, h3, hml, VC.Now, VC.vc, VC.lib, VC.mapN_drewN, VC.mapB_drewN, VC.regQ, VC.loopK, VC.reg, VC.opP, VC.pv, VC.thenF, VC.blkF, VC.retF, VC.resV, VC.oneV, VC.evo, VC.bin, VC.binI, VC.cmpI, VC.arithI, VC.ldv, VC.slv, VC.pickP, VC.holds, VC.chainOf, VC.look, VC.junk, VC.put, VC.eff, VC.callee, VC.pureB, VC.rdK, VC.rdKs, VC.okKs, VC.eqKs, VC.fillL, VC.putL, VC.stW, VC.stOK, VC.mixF, VC.setAll, Nat.reduceAdd, Nat.reduceSub, Nat.reduceMul, if_true, if_false, ↓reduceIte, forall_const, implies_true, reduceCtorEq, ne_eq, Nat.reduceBNe, Nat.reduceBEq, IntKind.signed, Nat.reduceEqDiff, Nat.reduceLeDiff, Nat.reduceLT, eq_self, Int.reduceEq, Int.reduceLT, Int.reduceLE, Int.reduceAdd, Int.reduceSub, VC.regC_nil, VC.regC_cons, VC.regCK_eq, VC.callQ, VC.tailQ, VC.goCall, VC.chStep]
  have ho0 : OwnK ((w.drewN 1).alloc (.cells #[] 258)) w.heap.size 258 4 0 (.slice (some ⟨w.heap.size, 0, none⟩) 0 0) [] := OwnK.lit (w.drewN 1) 258 4 0 [] (Nat.le_refl _) (by decide) rfl
  have hB1 : Below w.heap.size w ((w.drewN 1).alloc (.cells #[] 258)) := hd1.alloc (Nat.le_refl _) _
  have agA : ∀ {w'}, Below w.heap.size w w' → Agree (fun j => w.heap.size ≤ j) w w' := fun h => Agree.of_below h
  have hVl : (V.flatMap vowL).length = V.length * 4 := flat_length (f := vowL) (K := 4) (fun _ => rfl) V
  have hTl : (T.flatMap vowL).length = T.length * 4 := flat_length (f := vowL) (K := 4) (fun _ => rfl) T
  have one4 : ∀ (l : List Vow), ∀ u ∈ l.flatMap vowL, u.oneCell' = true := fun l u hu => by
    obtain ⟨x, _, hx⟩ := List.mem_flatMap.1 hu
    simp at hx
    rcases hx with rfl | rfl | rfl | rfl <;> rfl
  refine ⟨by omega, by omega, agA hB1, ?_⟩
  have hz1 : w.heap.size ≤ ((w.drewN 1).alloc (.cells #[] 258)).heap.size := hB1.size
  generalize (w.drewN 1).alloc (.cells #[] 258) = w1 at ho0 hB1 hz1 ⊢
  refine OPW_appM (m := V.length) rfl Fa.apI110 rfl rfl hVl (hV.below hB1) (one4 V) ho0 hz1 (by omega) (by decide) fun v2 w2 ho2 hg2 hst2 => ?_
  have hB2 : Below w.heap.size w w2 := hB1.grown hg2 hz1 fun k hk => by cases hk; exact Nat.le_refl _
  rw [Nat.zero_add, List.nil_append] at ho2
  simp -dsimp only [VC.heldF_done, VC.heldF_last, VC.planF_done, VC.planF_take, VC.planF_one, VC.planF_two, VC.planK_eq, VC.heldF_take, VC.heldF_one, VC.heldF_two, VC.heldF_twoL, VC.heldK_eq, VC.okRd, Fa.F48, rdSA_of h2, rdSN_of h2, rdSC_of h2, h2, rdSA_of h3, rdSN_of h3, rdSC_of h3, h3, hml, VC.Now, VC.vc, VC.lib, VC.mapN_drewN, VC.mapB_drewN, VC.regQ, VC.loopK, VC.reg, VC.opP, VC.pv, VC.thenF, VC.blkF, VC.retF, VC.resV, VC.oneV, VC.evo, VC.bin, VC.binI, VC.cmpI, VC.arithI, VC.ldv, VC.slv, VC.pickP, VC.holds, VC.chainOf, VC.look, VC.junk, VC.put, VC.eff, VC.callee, VC.pureB, VC.rdK, VC.rdKs, VC.okKs, VC.eqKs, VC.fillL, VC.putL, VC.stW, VC.stOK, VC.mixF, VC.setAll, Nat.reduceAdd, Nat.reduceSub, Nat.reduceMul, if_true, if_false, ↓reduceIte, forall_const, implies_true, reduceCtorEq, ne_eq, Nat.reduceBNe, Nat.reduceBEq, IntKind.signed, Nat.reduceEqDiff, Nat.reduceLeDiff, Nat.reduceLT, eq_self, Int.reduceEq, Int.reduceLT, Int.reduceLE, Int.reduceAdd, Int.reduceSub, VC.regC_nil, VC.regC_cons, VC.regCK_eq, VC.callQ, VC.tailQ, VC.goCall, VC.chStep]
  refine ⟨agA hB2, ?_⟩
  refine OPW_appM (m := T.length) rfl Fa.apI110 rfl rfl hTl (hT.below hB2) (one4 T) ho2 hB2.size (by omega) (by decide) fun v3 w3 ho3 hg3 hst3 => ?_
  have hB3 : Below w.heap.size w w3 := hB2.grown hg3 hB2.size fun k hk => (ho2.lt hk).1
  rw [← List.flatMap_append, ← List.length_append] at ho3
  have hln : (V ++ T).length ≤ 1000 := by rw [List.length_append]; exact hl
  generalize V ++ T = L at *
  obtain ⟨A3, c3, rfl, _⟩ := id ho3
  simp -dsimp only [VC.heldF_done, VC.heldF_last, VC.planF_done, VC.planF_take, VC.planF_one, VC.planF_two, VC.planK_eq, VC.heldF_take, VC.heldF_one, VC.heldF_two, VC.heldF_twoL, VC.heldK_eq, VC.okRd, Fa.F48, rdSA_of h2, rdSN_of h2, rdSC_of h2, h2, rdSA_of h3, rdSN_of h3, rdSC_of h3, h3, hml, VC.Now, VC.vc, VC.lib, VC.mapN_drewN, VC.mapB_drewN, VC.regQ, VC.loopK, VC.reg, VC.opP, VC.pv, VC.thenF, VC.blkF, VC.retF, VC.resV, VC.oneV, VC.evo, VC.bin, VC.binI, VC.cmpI, VC.arithI, VC.ldv, VC.slv, VC.pickP, VC.holds, VC.chainOf, VC.look, VC.junk, VC.put, VC.eff, VC.callee, VC.pureB, VC.rdK, VC.rdKs, VC.okKs, VC.eqKs, VC.fillL, VC.putL, VC.stW, VC.stOK, VC.mixF, VC.setAll, Nat.reduceAdd, Nat.reduceSub, Nat.reduceMul, if_true, if_false, ↓reduceIte, forall_const, implies_true, reduceCtorEq, ne_eq, Nat.reduceBNe, Nat.reduceBEq, IntKind.signed, Nat.reduceEqDiff, Nat.reduceLeDiff, Nat.reduceLT, eq_self, Int.reduceEq, Int.reduceLT, Int.reduceLE, Int.reduceAdd, Int.reduceSub, VC.regC_nil, VC.regC_cons, VC.regCK_eq, VC.callQ, VC.tailQ, VC.goCall, VC.chStep]
  refine ⟨agA hB3, agA hB3, ?_⟩
  have hr := RdT.ownL ho3 (fun _ => rfl) vow0
  clear ho3 hg3 hst3 ho2 hg2 hst2 hB2 hB1 ho0 hz1
  subst hQ
  simp -dsimp only [Fa.F48, VC.Now, VC.vc, VC.lib, VC.mapN_drewN, VC.mapB_drewN, VC.regQ, VC.loopK, VC.reg, VC.opP, VC.pv, VC.thenF, VC.blkF, VC.retF, VC.resV, VC.oneV, VC.evo, VC.bin, VC.binI, VC.cmpI, VC.arithI, VC.ldv, VC.slv, VC.pickP, VC.holds, VC.chainOf, VC.look, VC.junk, VC.put, VC.eff, VC.callee, VC.pureB, VC.rdK, VC.rdKs, VC.okKs, VC.eqKs, VC.fillL, VC.putL, VC.stW, VC.stOK, VC.mixF, VC.setAll, Nat.reduceAdd, Nat.reduceSub, Nat.reduceMul, if_true, if_false, ↓reduceIte, forall_const, implies_true, reduceCtorEq, ne_eq, Nat.reduceBNe, Nat.reduceBEq, IntKind.signed, Nat.reduceEqDiff, Nat.reduceLeDiff, Nat.reduceLT, eq_self, Int.reduceEq, Int.reduceLT, Int.reduceLE, Int.reduceAdd, Int.reduceSub, VC.regC_nil, VC.regC_cons, VC.regCK_eq, VC.callQ, VC.tailQ, VC.goCall, VC.chStep]
  refine loop_slots Fa.mix [5, 20] [7, 21, 22, 23, 24, 25, 26, 27, 28, 29, 30, 31, 32, 33, 34, 35, 36] (fun m vs wx => ∃ k : Nat, k + m = L.length ∧ vs = [.int .i64 (proL (L.take k) who), .int .i64 k] ∧ Below w.heap.size w wx ∧ RdT wx A3 L.length 4 (fun i => vowL (L.getD i vow0))) L.length (by kernel_rfl) rfl
    ⟨0, by omega, rfl, hB3, hr⟩ ?_
  clear hr hB3
  rintro m vs u wx ⟨k, hkm, rfl, hBx, hr⟩
  by_cases hk : k < L.length
  · obtain ⟨b, o, rfl, hb, hc⟩ := hr (by omega)
    have s0 := hc k hk 0 _ rfl
    have s1 := hc k hk 1 _ rfl
    have s2 := hc k hk 2 _ rfl
    have s3 := hc k hk 3 _ rfl
    simp only [Nat.add_zero] at s0
    have e7 : ((k : Int) < L.length) = True := eq_true (by omega)
    have hsn : proL (L.take (k + 1)) who = proF who (proL (L.take k) who) (L.getD k vow0) := by rw [take_last hk vow0, proL_snoc]
    generalize hy : L.getD k vow0 = y at *
    generalize proL (L.take k) who = pm at *
    have hBa : Below wx.heap.size wx (wx.alloc (.cells (vowL y).toArray 258)) := (Below.refl _ _).alloc (Nat.le_refl _) _
    by_cases q1 : y.who = who
    · have e1 := eq_true q1
      by_cases q2 : pm < y.b
      · have e2 := eq_true q2
        simp -dsimp only [Fa.F48, e7, e1, e2, rdI_of s0, s0, rdI_of s1, s1, rdI_of s2, s2, rdI_of s3, s3, hb, Int.toNat_natCast, undef, tu, uf, ul, ur, VC.Now, VC.vc, VC.lib, VC.mapN_drewN, VC.mapB_drewN, VC.regQ, VC.loopK, VC.reg, VC.opP, VC.pv, VC.thenF, VC.blkF, VC.retF, VC.resV, VC.oneV, VC.evo, VC.bin, VC.binI, VC.cmpI, VC.arithI, VC.ldv, VC.slv, VC.pickP, VC.holds, VC.chainOf, VC.look, VC.junk, VC.put, VC.eff, VC.callee, VC.pureB, VC.rdK, VC.rdKs, VC.okKs, VC.eqKs, VC.fillL, VC.putL, VC.stW, VC.stOK, VC.mixF, VC.setAll, Nat.reduceAdd, Nat.reduceSub, Nat.reduceMul, if_true, if_false, ↓reduceIte, forall_const, implies_true, reduceCtorEq, ne_eq, Nat.reduceBNe, Nat.reduceBEq, IntKind.signed, Nat.reduceEqDiff, Nat.reduceLeDiff, Nat.reduceLT, eq_self, Int.reduceEq, Int.reduceLT, Int.reduceLE, Int.reduceAdd, Int.reduceSub, VC.regC_nil, VC.regC_cons, VC.regCK_eq, VC.callQ, VC.tailQ, VC.goCall, VC.chStep]
        exact ⟨by omega, fun u => ⟨fits_i64_nat (by omega), SAME.intro (by kernel_rfl), m - 1, by omega, k + 1, by omega, by rw [hsn]; unfold proF; rw [if_pos ⟨q1, q2⟩]; rfl, hBx.trans (hBa.mono hBx.size), hr.below hBa⟩⟩
      · have e2 := eq_false q2
        simp -dsimp only [Fa.F48, e7, e1, e2, rdI_of s0, s0, rdI_of s1, s1, rdI_of s2, s2, rdI_of s3, s3, hb, Int.toNat_natCast, undef, tu, uf, ul, ur, VC.Now, VC.vc, VC.lib, VC.mapN_drewN, VC.mapB_drewN, VC.regQ, VC.loopK, VC.reg, VC.opP, VC.pv, VC.thenF, VC.blkF, VC.retF, VC.resV, VC.oneV, VC.evo, VC.bin, VC.binI, VC.cmpI, VC.arithI, VC.ldv, VC.slv, VC.pickP, VC.holds, VC.chainOf, VC.look, VC.junk, VC.put, VC.eff, VC.callee, VC.pureB, VC.rdK, VC.rdKs, VC.okKs, VC.eqKs, VC.fillL, VC.putL, VC.stW, VC.stOK, VC.mixF, VC.setAll, Nat.reduceAdd, Nat.reduceSub, Nat.reduceMul, if_true, if_false, ↓reduceIte, forall_const, implies_true, reduceCtorEq, ne_eq, Nat.reduceBNe, Nat.reduceBEq, IntKind.signed, Nat.reduceEqDiff, Nat.reduceLeDiff, Nat.reduceLT, eq_self, Int.reduceEq, Int.reduceLT, Int.reduceLE, Int.reduceAdd, Int.reduceSub, VC.regC_nil, VC.regC_cons, VC.regCK_eq, VC.callQ, VC.tailQ, VC.goCall, VC.chStep]
        exact ⟨by omega, fun u => ⟨fits_i64_nat (by omega), SAME.intro (by kernel_rfl), m - 1, by omega, k + 1, by omega, by rw [hsn]; unfold proF; rw [if_neg (fun h => q2 h.2)]; rfl, hBx.trans (hBa.mono hBx.size), hr.below hBa⟩⟩
    · have e1 := eq_false q1
      simp -dsimp only [Fa.F48, e7, e1, rdI_of s0, s0, rdI_of s1, s1, rdI_of s2, s2, rdI_of s3, s3, hb, Int.toNat_natCast, undef, tu, uf, ul, ur, VC.Now, VC.vc, VC.lib, VC.mapN_drewN, VC.mapB_drewN, VC.regQ, VC.loopK, VC.reg, VC.opP, VC.pv, VC.thenF, VC.blkF, VC.retF, VC.resV, VC.oneV, VC.evo, VC.bin, VC.binI, VC.cmpI, VC.arithI, VC.ldv, VC.slv, VC.pickP, VC.holds, VC.chainOf, VC.look, VC.junk, VC.put, VC.eff, VC.callee, VC.pureB, VC.rdK, VC.rdKs, VC.okKs, VC.eqKs, VC.fillL, VC.putL, VC.stW, VC.stOK, VC.mixF, VC.setAll, Nat.reduceAdd, Nat.reduceSub, Nat.reduceMul, if_true, if_false, ↓reduceIte, forall_const, implies_true, reduceCtorEq, ne_eq, Nat.reduceBNe, Nat.reduceBEq, IntKind.signed, Nat.reduceEqDiff, Nat.reduceLeDiff, Nat.reduceLT, eq_self, Int.reduceEq, Int.reduceLT, Int.reduceLE, Int.reduceAdd, Int.reduceSub, VC.regC_nil, VC.regC_cons, VC.regCK_eq, VC.callQ, VC.tailQ, VC.goCall, VC.chStep]
      exact ⟨by omega, fun u => ⟨fits_i64_nat (by omega), SAME.intro (by kernel_rfl), m - 1, by omega, k + 1, by omega, by rw [hsn]; unfold proF; rw [if_neg (fun h => q1 h.1)]; rfl, hBx.trans (hBa.mono hBx.size), hr.below hBa⟩⟩
  · obtain rfl : k = L.length := by omega
    have e7 : ((L.length : Int) < L.length) = False := eq_false (by omega)
    rw [List.take_length] at *
    simp -dsimp only [Fa.F48, e7, VC.Now, VC.vc, VC.lib, VC.mapN_drewN, VC.mapB_drewN, VC.regQ, VC.loopK, VC.reg, VC.opP, VC.pv, VC.thenF, VC.blkF, VC.retF, VC.resV, VC.oneV, VC.evo, VC.bin, VC.binI, VC.cmpI, VC.arithI, VC.ldv, VC.slv, VC.pickP, VC.holds, VC.chainOf, VC.look, VC.junk, VC.put, VC.eff, VC.callee, VC.pureB, VC.rdK, VC.rdKs, VC.okKs, VC.eqKs, VC.fillL, VC.putL, VC.stW, VC.stOK, VC.mixF, VC.setAll, Nat.reduceAdd, Nat.reduceSub, Nat.reduceMul, if_true, if_false, ↓reduceIte, forall_const, implies_true, reduceCtorEq, ne_eq, Nat.reduceBNe, Nat.reduceBEq, IntKind.signed, Nat.reduceEqDiff, Nat.reduceLeDiff, Nat.reduceLT, eq_self, Int.reduceEq, Int.reduceLT, Int.reduceLE, Int.reduceAdd, Int.reduceSub, VC.regC_nil, VC.regC_cons, VC.regCK_eq, VC.callQ, VC.tailQ, VC.goCall, VC.chStep]
    exact hBx

set_option maxRecDepth 8000 in
set_option maxHeartbeats 4000000 in
theorem taken_any (h3 : w.cell? ⟨mb, 3, none⟩ = some (.slice A T.length c)) (hml : mb < w.heap.size) (hT : RdT w A T.length 4 (fun i => vowL (T.getD i vow0))) (hl : T.length ≤ 1000) (who : Int) :
    Calls Try.prog 49 #[ptrV mb, .int .i64 who] w fun e w' => e = .returned (.agg #[.int .i64 (takL T who).n, .int .i64 (takL T who).v]) ∧ Below w.heap.size w w' := by
  refine calls_vc (rs := [.cell 4 117]) Fa.mix Try.func49 rfl Try.ntmps49 rfl (by kernel_rfl) (Nat.le_of_ble_eq_true rfl) ?_
  (repeat rw [vc_seq]); refine vc_plain _ fun Q hQ => ?_; simp -dsimp only [Fa.F49, VC.Now, VC.vc_skip, VC.vc_ret, VC.vc_exit, VC.vc_block, VC.vc_cond, VC.vc_region, VC.lib, VC.mapN_drewN, VC.mapB_drewN, VC.regQ, VC.loopK, VC.reg, VC.opP, VC.pv, VC.thenF, VC.blkF, VC.retF, VC.resV, VC.oneV, VC.evo, VC.bin, VC.binI, VC.cmpI, VC.arithI, VC.ldv, VC.slv, VC.pickP, VC.holds, VC.chainOf, VC.look, VC.junk, VC.put, VC.eff, VC.callee, VC.pureB, VC.rdK, VC.rdKs, VC.okKs, VC.eqKs, VC.fillL, VC.putL, VC.stW, VC.stOK, VC.mixF, VC.setAll, Nat.reduceAdd, Nat.reduceSub, Nat.reduceMul, if_true, if_false, ↓reduceIte, forall_const, implies_true, reduceCtorEq, ne_eq, Nat.reduceBNe, Nat.reduceBEq, IntKind.signed, Nat.reduceEqDiff, Nat.reduceLeDiff, Nat.reduceLT, eq_self, Int.reduceEq, Int.reduceLT, Int.reduceLE, Int.reduceAdd, Int.reduceSub, VC.regC_nil, VC.regC_cons, VC.regCK_eq, VC.callQ, VC.tailQ, VC.goCall, VC.chStep]
  have st0 := (Hp.nil (B := w.heap.size) (Nat.le_refl _)).st_add (o := oBox w.heap.size (bL bal0)) ((Below.refl _ w).alloc (Nat.le_refl _) (.cells (bL bal0).toArray 117)) (Box.new w _ _) (fun g hg => by cases hg; exact Nat.le_refl _)
  have hz0 : (w.alloc (.cells (bL bal0).toArray 117)).heap.size = w.heap.size + 1 := by simp
  have hB0 : Below w.heap.size w (w.alloc (.cells (bL bal0).toArray 117)) := (Below.refl _ w).alloc (Nat.le_refl _) _
  change Q _ _ (w.alloc (.cells (bL bal0).toArray 117))
  generalize w.alloc (.cells (bL bal0).toArray 117) = w1 at st0 hz0 hB0 ⊢
  subst hQ; simp -dsimp only [VC.Now, VC.vc_skip, VC.vc_ret, VC.vc_exit, VC.vc_block, VC.vc_cond, VC.vc_region, VC.lib, VC.mapN_drewN, VC.mapB_drewN, VC.regQ, VC.loopK, VC.reg, VC.opP, VC.pv, VC.thenF, VC.blkF, VC.retF, VC.resV, VC.oneV, VC.evo, VC.bin, VC.binI, VC.cmpI, VC.arithI, VC.ldv, VC.slv, VC.pickP, VC.holds, VC.chainOf, VC.look, VC.junk, VC.put, VC.eff, VC.callee, VC.pureB, VC.rdK, VC.rdKs, VC.okKs, VC.eqKs, VC.fillL, VC.putL, VC.stW, VC.stOK, VC.mixF, VC.setAll, Nat.reduceAdd, Nat.reduceSub, Nat.reduceMul, if_true, if_false, ↓reduceIte, forall_const, implies_true, reduceCtorEq, ne_eq, Nat.reduceBNe, Nat.reduceBEq, IntKind.signed, Nat.reduceEqDiff, Nat.reduceLeDiff, Nat.reduceLT, eq_self, Int.reduceEq, Int.reduceLT, Int.reduceLE, Int.reduceAdd, Int.reduceSub, VC.regC_nil, VC.regC_cons, VC.regCK_eq, VC.callQ, VC.tailQ, VC.goCall, VC.chStep]; (repeat rw [vc_seq]); refine vc_plain _ fun Q hQ => ?_; simp -dsimp only [Fa.F49, VC.Now, VC.vc_skip, VC.vc_ret, VC.vc_exit, VC.vc_block, VC.vc_cond, VC.vc_region, VC.lib, VC.mapN_drewN, VC.mapB_drewN, VC.regQ, VC.loopK, VC.reg, VC.opP, VC.pv, VC.thenF, VC.blkF, VC.retF, VC.resV, VC.oneV, VC.evo, VC.bin, VC.binI, VC.cmpI, VC.arithI, VC.ldv, VC.slv, VC.pickP, VC.holds, VC.chainOf, VC.look, VC.junk, VC.put, VC.eff, VC.callee, VC.pureB, VC.rdK, VC.rdKs, VC.okKs, VC.eqKs, VC.fillL, VC.putL, VC.stW, VC.stOK, VC.mixF, VC.setAll, Nat.reduceAdd, Nat.reduceSub, Nat.reduceMul, if_true, if_false, ↓reduceIte, forall_const, implies_true, reduceCtorEq, ne_eq, Nat.reduceBNe, Nat.reduceBEq, IntKind.signed, Nat.reduceEqDiff, Nat.reduceLeDiff, Nat.reduceLT, eq_self, Int.reduceEq, Int.reduceLT, Int.reduceLE, Int.reduceAdd, Int.reduceSub, VC.regC_nil, VC.regC_cons, VC.regCK_eq, VC.callQ, VC.tailQ, VC.goCall, VC.chStep]
  have st1 := st0.hp.st_add (o := oBox w1.heap.size (bL bal0)) ((Below.refl _ w1).alloc (Nat.le_refl _) (.cells (bL bal0).toArray 117)) (Box.new w1 _ _) (fun g hg => by cases hg; exact Nat.le_refl _)
  have hB1 : Below w.heap.size w (w1.alloc (.cells (bL bal0).toArray 117)) := hB0.trans (((Below.refl _ w1).alloc (Nat.le_refl _) _).mono (by omega))
  replace st1 := st0.trans st1
  change Q _ _ (w1.alloc (.cells (bL bal0).toArray 117))
  generalize w1.alloc (.cells (bL bal0).toArray 117) = w2 at st1 hB1 ⊢
  rw [hz0] at st1 ⊢
  have hH := st1.hp
  clear st1 st0 hB0 hz0
  have s0 := hB1.cell (p := ⟨mb, 3, none⟩) hml |>.trans h3
  have hr2 := hT.below hB1
  have hml2 := Nat.lt_of_lt_of_le hml hB1.size
  generalize hrb : w.heap.size = rb at hH hB1 ⊢
  subst hQ
  simp -dsimp only [Fa.F49, rdSA_of s0, rdSN_of s0, rdSC_of s0, s0, hml2, Int.toNat_natCast, Nat.zero_add, VC.Now, VC.vc, VC.lib, VC.mapN_drewN, VC.mapB_drewN, VC.regQ, VC.loopK, VC.reg, VC.opP, VC.pv, VC.thenF, VC.blkF, VC.retF, VC.resV, VC.oneV, VC.evo, VC.bin, VC.binI, VC.cmpI, VC.arithI, VC.ldv, VC.slv, VC.pickP, VC.holds, VC.chainOf, VC.look, VC.junk, VC.put, VC.eff, VC.callee, VC.pureB, VC.rdK, VC.rdKs, VC.okKs, VC.eqKs, VC.fillL, VC.putL, VC.stW, VC.stOK, VC.mixF, VC.setAll, Nat.reduceAdd, Nat.reduceSub, Nat.reduceMul, if_true, if_false, ↓reduceIte, forall_const, implies_true, reduceCtorEq, ne_eq, Nat.reduceBNe, Nat.reduceBEq, IntKind.signed, Nat.reduceEqDiff, Nat.reduceLeDiff, Nat.reduceLT, eq_self, Int.reduceEq, Int.reduceLT, Int.reduceLE, Int.reduceAdd, Int.reduceSub, VC.regC_nil, VC.regC_cons, VC.regCK_eq, VC.callQ, VC.tailQ, VC.goCall, VC.chStep]
  refine loop_slots Fa.mix [14] [7, 15, 16, 17, 18, 19, 20, 21, 22, 23, 24] (fun m vs wx => ∃ k : Nat, k + m = T.length ∧ vs = [.int .i64 k] ∧ Below rb w wx ∧ Hp rb [oBox (rb + 1) (bL (takL (T.take k) who)), oBox rb (bL bal0)] wx) T.length (by kernel_rfl) rfl
    ⟨0, by omega, rfl, hB1, hH⟩ ?_
  clear hH hB1 s0 hr2 hml2
  rintro m vs u wx ⟨k, hkm, rfl, hBx, hH⟩
  have bt : Box wx (rb + 1) (bL (takL (T.take k) who)) := hH.get 0 rfl
  have t0 := bt.at (i := 0) rfl
  have t1 := bt.at (i := 1) rfl
  by_cases hk : k < T.length
  · obtain ⟨b, o, rfl, hb, hc⟩ := (hT.below (by rw [hrb]; exact hBx)) (by omega)
    have c0 := hc k hk 0 _ rfl
    have c1 := hc k hk 1 _ rfl
    have c2 := hc k hk 2 _ rfl
    have c3 := hc k hk 3 _ rfl
    simp only [Nat.add_zero] at c0
    have e7 : ((k : Int) < T.length) = True := eq_true (by omega)
    have htk : takL (T.take (k + 1)) who = if (T.getD k vow0).who = who then (T.getD k vow0).told else takL (T.take k) who := by rw [take_last hk vow0, takL_snoc]
    generalize T.getD k vow0 = y at *
    generalize takL (T.take k) who = z at *
    have hBs : Below wx.heap.size wx (wx.alloc (.cells (vowL y).toArray 258)) := (Below.refl _ _).alloc (Nat.le_refl _) _
    have hHy := hH.below hBs
    have hBy : Below rb w (wx.alloc (.cells (vowL y).toArray 258)) := hBx.trans (hBs.mono hH.base)
    have yb : wx.heap.size ≠ rb + 1 := by have := bt.1; omega
    by_cases q1 : y.who = who
    · have e1 := eq_true q1
      have st3 := (hHy.setBox 0 rfl 0 (.int .i64 y.told.n)).trans ((hHy.setBox 0 rfl 0 (.int .i64 y.told.n)).hp.setBox 0 rfl 1 (.int .i64 y.told.v))
      have byy : Box (wx.alloc (.cells (vowL y).toArray 258)) (rb + 1) (bL z) := hHy.get 0 rfl
      have g0 := byy.at (i := 0) rfl
      have g1 := byy.at (i := 1) rfl
      have f0 := byy.soft (i := 0) (by show 0 < 2; omega)
      have f1 := byy.soft (i := 1) (by show 1 < 2; omega)
      rw [if_pos q1] at htk
      simp -dsimp only [Fa.F49, e7, e1, rdI_of c0, c0, rdI_of c1, c1, rdI_of c2, c2, rdI_of c3, c3, hb, Int.toNat_natCast, g0, g1, f0, f1, VC.Now, VC.vc, VC.lib, VC.mapN_drewN, VC.mapB_drewN, VC.regQ, VC.loopK, VC.reg, VC.opP, VC.pv, VC.thenF, VC.blkF, VC.retF, VC.resV, VC.oneV, VC.evo, VC.bin, VC.binI, VC.cmpI, VC.arithI, VC.ldv, VC.slv, VC.pickP, VC.holds, VC.chainOf, VC.look, VC.junk, VC.put, VC.eff, VC.callee, VC.pureB, VC.rdK, VC.rdKs, VC.okKs, VC.eqKs, VC.fillL, VC.putL, VC.stW, VC.stOK, VC.mixF, VC.setAll, Nat.reduceAdd, Nat.reduceSub, Nat.reduceMul, if_true, if_false, ↓reduceIte, forall_const, implies_true, reduceCtorEq, ne_eq, Nat.reduceBNe, Nat.reduceBEq, IntKind.signed, Nat.reduceEqDiff, Nat.reduceLeDiff, Nat.reduceLT, eq_self, Int.reduceEq, Int.reduceLT, Int.reduceLE, Int.reduceAdd, Int.reduceSub, VC.regC_nil, VC.regC_cons, VC.regCK_eq, VC.callQ, VC.tailQ, VC.goCall, VC.chStep]
      refine ⟨by omega, fits_i64 (by omega) (by omega), SAME.intro (by kernel_rfl), m - 1, by omega, k + 1, by omega, rfl, hBy.trans (st3.below hHy), ?_⟩
      rw [htk]; exact st3.hp
    · have e1 := eq_false q1
      rw [if_neg q1] at htk
      simp -dsimp only [Fa.F49, e7, e1, rdI_of c0, c0, rdI_of c1, c1, rdI_of c2, c2, rdI_of c3, c3, hb, Int.toNat_natCast, VC.Now, VC.vc, VC.lib, VC.mapN_drewN, VC.mapB_drewN, VC.regQ, VC.loopK, VC.reg, VC.opP, VC.pv, VC.thenF, VC.blkF, VC.retF, VC.resV, VC.oneV, VC.evo, VC.bin, VC.binI, VC.cmpI, VC.arithI, VC.ldv, VC.slv, VC.pickP, VC.holds, VC.chainOf, VC.look, VC.junk, VC.put, VC.eff, VC.callee, VC.pureB, VC.rdK, VC.rdKs, VC.okKs, VC.eqKs, VC.fillL, VC.putL, VC.stW, VC.stOK, VC.mixF, VC.setAll, Nat.reduceAdd, Nat.reduceSub, Nat.reduceMul, if_true, if_false, ↓reduceIte, forall_const, implies_true, reduceCtorEq, ne_eq, Nat.reduceBNe, Nat.reduceBEq, IntKind.signed, Nat.reduceEqDiff, Nat.reduceLeDiff, Nat.reduceLT, eq_self, Int.reduceEq, Int.reduceLT, Int.reduceLE, Int.reduceAdd, Int.reduceSub, VC.regC_nil, VC.regC_cons, VC.regCK_eq, VC.callQ, VC.tailQ, VC.goCall, VC.chStep]
      refine ⟨by omega, fits_i64 (by omega) (by omega), SAME.intro (by kernel_rfl), m - 1, by omega, k + 1, by omega, rfl, hBy, ?_⟩
      rw [htk]; exact hHy
  · obtain rfl : k = T.length := by omega
    have e7 : ((T.length : Int) < T.length) = False := eq_false (by omega)
    rw [List.take_length] at *
    obtain ⟨ok, st3⟩ := hH.allBox 1 rfl (vs := bL (takL T who)) rfl (by intro v hv; simp at hv; rcases hv with rfl | rfl <;> rfl)
    have br : Box _ rb (bL (takL T who)) := st3.hp.get 1 rfl
    have r0 := br.at (i := 0) rfl
    have r1 := br.at (i := 1) rfl
    simp -dsimp only [Fa.F49, e7, rdI_of t0, t0, rdI_of t1, t1, rdI_of r0, r0, rdI_of r1, r1, VC.Now, VC.vc, VC.lib, VC.mapN_drewN, VC.mapB_drewN, VC.regQ, VC.loopK, VC.reg, VC.opP, VC.pv, VC.thenF, VC.blkF, VC.retF, VC.resV, VC.oneV, VC.evo, VC.bin, VC.binI, VC.cmpI, VC.arithI, VC.ldv, VC.slv, VC.pickP, VC.holds, VC.chainOf, VC.look, VC.junk, VC.put, VC.eff, VC.callee, VC.pureB, VC.rdK, VC.rdKs, VC.okKs, VC.eqKs, VC.fillL, VC.putL, VC.mixF, VC.setAll, Nat.reduceAdd, Nat.reduceSub, Nat.reduceMul, if_true, if_false, ↓reduceIte, forall_const, implies_true, reduceCtorEq, ne_eq, Nat.reduceBNe, Nat.reduceBEq, IntKind.signed, Nat.reduceEqDiff, Nat.reduceLeDiff, Nat.reduceLT, eq_self, Int.reduceEq, Int.reduceLT, Int.reduceLE, Int.reduceAdd, Int.reduceSub, VC.regC_nil, VC.regC_cons, VC.regCK_eq, VC.callQ, VC.tailQ, VC.goCall, VC.chStep]
    exact ⟨ok, by rw [hrb]; exact hBx.trans (st3.below hH)⟩
end
end Go.Proofs.Ytelfmhiaafkimaa
