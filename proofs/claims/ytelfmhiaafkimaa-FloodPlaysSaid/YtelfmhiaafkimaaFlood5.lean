/- Maps are copied; the least of a list. -/
import Derived.Test.YtelfmhiaafkimaaFlood4
import Derived.Shelf.SlMaps.Clone
namespace Go.Proofs.Ytelfmhiaafkimaa
open Go Go.RowKit Go.VC Go.Shelf
set_option linter.unusedSimpArgs false
set_option linter.unusedVariables false
def renW : Ren := ⟨fun k => if k = 5 then 65 else if k = 7 then 102 else k, fun t => if t = 4 then 4 else if t = 20 then 20 else if t = 23 then 97 else if t = 25 then 3 else if t = 3 then 3 else t, fun x => x⟩
theorem laidW : SlLaysW.n5 Try.prog renW where
  mixed := by kernel_rfl
  f5 := ⟨("maps.Clone[map[int]int,int,int]"), by kernel_rfl, by kernel_rfl⟩
  f7 := by kernel_rfl
  t4 := by kernel_rfl
  a4 := fun w => by kernel_rfl
  z4 := fun w => by kernel_rfl
  v4 := fun w => by kernel_rfl
  t20 := by kernel_rfl
  a20 := fun w => by kernel_rfl
  z20 := fun w => by kernel_rfl
  v20 := fun w => by kernel_rfl
  t23 := by kernel_rfl
  a23 := fun w => by kernel_rfl
  z23 := fun w => by kernel_rfl
  v23 := fun w => by kernel_rfl
theorem clone_any (b n : Nat) (m : Int → Option Value) (w : World) (hM : MapV Try.prog EJ w b n m) :
    Calls Try.prog 65 #[.map (some b)] w fun e w' => e = .returned (.map (some w.heap.size)) ∧ MapV Try.prog EJ w' w.heap.size n m ∧ Below w.heap.size w w' := by
  obtain ⟨D, hown, hsz, hD⟩ := hM
  exact (AnyW.maps_Clone_owns laidW 3 RV b n D w hown).mono fun e w' ⟨h1, h2, _, h4⟩ => ⟨h1, ⟨D, h2, hsz, hD⟩, h4⟩
theorem keysFn_any (b : Nat) (w : World) :
    Calls Try.prog 70 #[.map (some b)] w fun e w' => e = .returned (.func (.func 104) #[] #[.pointer (some ⟨w.heap.size, 0, none⟩)]) ∧ w' = w.alloc (.cells #[.map (some b)] 97) := by
  refine calls_vc (rs := [.tmp 2]) Fa.mix Try.func70 rfl Try.ntmps70 rfl (by kernel_rfl) (Nat.le_of_ble_eq_true rfl) ?_
  simp -dsimp (maxSteps := 2000000) only [Fa.F70, VC.Now, VC.vc, VC.lib, VC.mapN_drewN, VC.mapB_drewN, VC.regQ, VC.loopK, VC.reg, VC.opP, VC.opS, VC.opZ, VC.nomulB, VC.pv, VC.thenF, VC.blkF, VC.retF, VC.resV, VC.oneV, VC.evo, VC.bin, VC.binI, VC.cmpI, VC.arithI, VC.ldv, VC.slv, VC.pickP, VC.holds, VC.chainOf, VC.look, VC.junk, VC.put, VC.eff, VC.callee, VC.pureB, VC.rdK, VC.rdKs, VC.okKs, VC.eqKs, VC.fillL, VC.putL, VC.stW, VC.stOK, VC.mixF, VC.setAll, Nat.reduceAdd, Nat.reduceSub, Nat.reduceMul, if_true, if_false, ↓reduceIte, forall_const, implies_true, reduceCtorEq, ne_eq, Nat.reduceBNe, Nat.reduceBEq, IntKind.signed, Nat.reduceEqDiff, Nat.reduceLeDiff, Nat.reduceLT, eq_self, Int.reduceEq, Int.reduceLT, Int.reduceLE, Int.reduceAdd, Int.reduceSub, VC.regC_nil, VC.regC_cons, VC.regCK_eq, VC.callQ, VC.tailQ, VC.goCall, VC.chStep]
set_option maxRecDepth 8000 in
set_option maxHeartbeats 1000000 in
theorem min_any (A : Option Addr) (c : Nat) (l : List Int) (w : World) (hr : Rd w A (l.map (Value.int .i64))) (h0 : 0 < l.length) (hl : l.length ≤ 100000) :
    Calls Try.prog 68 #[.slice A l.length c] w fun e w' => (∃ z, e = .returned (.int .i64 z) ∧ z ∈ l ∧ ∀ x ∈ l, z ≤ x) ∧ w' = w := by
  have e0 : ((l.length : Int) < 1) = False := eq_false (by omega)
  obtain ⟨b, o, rfl, hb, hc⟩ := hr (by simpa using h0)
  have hcell : ∀ j (hj : j < l.length), w.cell? ⟨b, o + j, none⟩ = some (.int .i64 l[j]) := fun j hj => by
    rw [hc j (by simpa using hj), List.getElem?_map, List.getElem?_eq_getElem hj]; rfl
  have h00 := hcell 0 h0
  simp only [Nat.add_zero] at h00
  refine calls_vc (rs := [.tmp 2]) Fa.mix Try.func68 rfl Try.ntmps68 rfl (by kernel_rfl) (Nat.le_of_ble_eq_true rfl) ?_
  simp -dsimp (maxSteps := 2000000) only [Fa.F68, e0, rdI_of h00, h00, hb, VC.Now, VC.vc, VC.lib, VC.mapN_drewN, VC.mapB_drewN, VC.regQ, VC.loopK, VC.reg, VC.opP, VC.opS, VC.opZ, VC.nomulB, VC.pv, VC.thenF, VC.blkF, VC.retF, VC.resV, VC.oneV, VC.evo, VC.bin, VC.binI, VC.cmpI, VC.arithI, VC.ldv, VC.slv, VC.pickP, VC.holds, VC.chainOf, VC.look, VC.junk, VC.put, VC.eff, VC.callee, VC.pureB, VC.rdK, VC.rdKs, VC.okKs, VC.eqKs, VC.fillL, VC.putL, VC.stW, VC.stOK, VC.mixF, VC.setAll, Nat.reduceAdd, Nat.reduceSub, Nat.reduceMul, if_true, if_false, ↓reduceIte, forall_const, implies_true, reduceCtorEq, ne_eq, Nat.reduceBNe, Nat.reduceBEq, IntKind.signed, Nat.reduceEqDiff, Nat.reduceLeDiff, Nat.reduceLT, eq_self, Int.reduceEq, Int.reduceLT, Int.reduceLE, Int.reduceAdd, Int.reduceSub, VC.regC_nil, VC.regC_cons, VC.regCK_eq, VC.callQ, VC.tailQ, VC.goCall, VC.chStep]
  refine ⟨by omega, ?_⟩
  refine loop_slots Fa.mix [4, 3] [12, 13, 14, 15, 16, 17, 18, 19, 20, 21, 22, 23] (fun m vs wx => ∃ (k : Nat) (z : Int), k + m = l.length ∧ 1 ≤ k ∧ vs = [.int .i64 k, .int .i64 z] ∧ wx = w ∧ z ∈ l.take k ∧ ∀ x ∈ l.take k, z ≤ x) (l.length - 1) (by kernel_rfl) rfl
    ⟨1, l[0], by omega, Nat.le_refl _, rfl, rfl, ?_, ?_⟩ ?_
  · rw [List.take_succ_eq_append_getElem h0]; simp
  · rw [List.take_succ_eq_append_getElem h0]; simp
  rintro m vs u wx ⟨k, z, hkm, hk1, rfl, rfl, hz1, hz2⟩
  by_cases hk : k < l.length
  · have e7 : ((k : Int) < l.length) = True := eq_true (by omega)
    have hk0 := hcell k hk
    simp -dsimp (maxSteps := 2000000) only [Fa.F68, e7, rdI_of hk0, hk0, hb, Int.toNat_natCast, VC.Now, VC.vc, VC.lib, VC.mapN_drewN, VC.mapB_drewN, VC.regQ, VC.loopK, VC.reg, VC.opP, VC.opS, VC.opZ, VC.nomulB, VC.pv, VC.thenF, VC.blkF, VC.retF, VC.resV, VC.oneV, VC.evo, VC.bin, VC.binI, VC.cmpI, VC.arithI, VC.ldv, VC.slv, VC.pickP, VC.holds, VC.chainOf, VC.look, VC.junk, VC.put, VC.eff, VC.callee, VC.pureB, VC.rdK, VC.rdKs, VC.okKs, VC.eqKs, VC.fillL, VC.putL, VC.stW, VC.stOK, VC.mixF, VC.setAll, Nat.reduceAdd, Nat.reduceSub, Nat.reduceMul, if_true, if_false, ↓reduceIte, forall_const, implies_true, reduceCtorEq, ne_eq, Nat.reduceBNe, Nat.reduceBEq, IntKind.signed, Nat.reduceEqDiff, Nat.reduceLeDiff, Nat.reduceLT, eq_self, Int.reduceEq, Int.reduceLT, Int.reduceLE, Int.reduceAdd, Int.reduceSub, VC.regC_nil, VC.regC_cons, VC.regCK_eq, VC.callQ, VC.tailQ, VC.goCall, VC.chStep]
    refine ⟨by omega, fits_i64_nat (by omega), SAME.intro (by kernel_rfl), m - 1, by omega, k + 1, (if l[k] < z then l[k] else z), by omega, by omega, rfl, ?_, ?_⟩
    · rw [List.take_succ_eq_append_getElem hk]
      split
      · exact List.mem_append_right _ (by simp)
      · exact List.mem_append_left _ hz1
    · rw [List.take_succ_eq_append_getElem hk]
      intro x hx
      rcases List.mem_append.1 hx with hx | hx
      · have := hz2 x hx; split <;> omega
      · rw [List.mem_singleton.1 hx]; split <;> omega
  · obtain rfl : k = l.length := by omega
    have e7 : (((l.length : Nat) : Int) < (l.length : Nat)) = False := eq_false (by omega)
    rw [List.take_length] at hz1 hz2
    simp -dsimp (maxSteps := 2000000) only [Fa.F68, e7, VC.Now, VC.vc, VC.lib, VC.mapN_drewN, VC.mapB_drewN, VC.regQ, VC.loopK, VC.reg, VC.opP, VC.opS, VC.opZ, VC.nomulB, VC.pv, VC.thenF, VC.blkF, VC.retF, VC.resV, VC.oneV, VC.evo, VC.bin, VC.binI, VC.cmpI, VC.arithI, VC.ldv, VC.slv, VC.pickP, VC.holds, VC.chainOf, VC.look, VC.junk, VC.put, VC.eff, VC.callee, VC.pureB, VC.rdK, VC.rdKs, VC.okKs, VC.eqKs, VC.fillL, VC.putL, VC.stW, VC.stOK, VC.mixF, VC.setAll, Nat.reduceAdd, Nat.reduceSub, Nat.reduceMul, if_true, if_false, ↓reduceIte, forall_const, implies_true, reduceCtorEq, ne_eq, Nat.reduceBNe, Nat.reduceBEq, IntKind.signed, Nat.reduceEqDiff, Nat.reduceLeDiff, Nat.reduceLT, eq_self, Int.reduceEq, Int.reduceLT, Int.reduceLE, Int.reduceAdd, Int.reduceSub, VC.regC_nil, VC.regC_cons, VC.regCK_eq, VC.callQ, VC.tailQ, VC.goCall, VC.chStep]
    exact ⟨z, rfl, hz1, hz2⟩
set_option maxRecDepth 8000 in
set_option maxHeartbeats 1000000 in
theorem copy_any (b1 n1 b2 n2 : Nat) (m1 m2 : Int → Option Value) (w : World) (h1 : MapV Try.prog EJ w b1 n1 m1) (h2 : MapV Try.prog EJ w b2 n2 m2) (hne : b1 ≠ b2) (hn : n1 + n2 ≤ 100000) (hone : ∀ x v, EJ.ok x → m2 x = some v → v.oneCell' = true) :
    Calls Try.prog 67 #[.map (some b1), .map (some b2)] w fun e w' => e = .returned (.tuple #[]) ∧ ∃ n' m', MapV Try.prog EJ w' b1 n' m' ∧ n' ≤ n1 + n2 ∧ (∀ x, EJ.ok x → m' x = if (m2 x).isSome = true then m2 x else m1 x) ∧ Agree (fun k => k = b1 ∨ w.heap.size ≤ k) w w' := by
  have l1 := h1.lt
  have l2 := h2.lt
  refine calls_vc (rs := []) Fa.mix Try.func67 rfl Try.ntmps67 rfl (by kernel_rfl) (Nat.le_of_ble_eq_true rfl) ?_
  simp -dsimp (maxSteps := 2000000) only [Fa.F67, VC.Now, VC.vc, VC.lib, VC.mapN_drewN, VC.mapB_drewN, VC.regQ, VC.loopK, VC.reg, VC.opP, VC.opS, VC.opZ, VC.nomulB, VC.pv, VC.thenF, VC.blkF, VC.retF, VC.resV, VC.oneV, VC.evo, VC.bin, VC.binI, VC.cmpI, VC.arithI, VC.ldv, VC.slv, VC.pickP, VC.holds, VC.chainOf, VC.look, VC.junk, VC.put, VC.eff, VC.callee, VC.pureB, VC.rdK, VC.rdKs, VC.okKs, VC.eqKs, VC.fillL, VC.putL, VC.stW, VC.stOK, VC.mixF, VC.setAll, Nat.reduceAdd, Nat.reduceSub, Nat.reduceMul, if_true, if_false, ↓reduceIte, forall_const, implies_true, reduceCtorEq, ne_eq, Nat.reduceBNe, Nat.reduceBEq, IntKind.signed, Nat.reduceEqDiff, Nat.reduceLeDiff, Nat.reduceLT, eq_self, Int.reduceEq, Int.reduceLT, Int.reduceLE, Int.reduceAdd, Int.reduceSub, VC.regC_nil, VC.regC_cons, VC.regCK_eq, VC.callQ, VC.tailQ, VC.goCall, VC.chStep]
  refine OPW_rangeV h2 rfl (by kernel_rfl) rfl fun w1 hR hB1 hs1 => ?_
  rw [VC.Now, VC.seqK_eq]
  simp -dsimp (maxSteps := 2000000) only [Fa.F67, VC.Now, VC.vc, VC.lib, VC.mapN_drewN, VC.mapB_drewN, VC.regQ, VC.loopK, VC.reg, VC.opP, VC.opS, VC.opZ, VC.nomulB, VC.pv, VC.thenF, VC.blkF, VC.retF, VC.resV, VC.oneV, VC.evo, VC.bin, VC.binI, VC.cmpI, VC.arithI, VC.ldv, VC.slv, VC.pickP, VC.holds, VC.chainOf, VC.look, VC.junk, VC.put, VC.eff, VC.callee, VC.pureB, VC.rdK, VC.rdKs, VC.okKs, VC.eqKs, VC.fillL, VC.putL, VC.stW, VC.stOK, VC.mixF, VC.setAll, Nat.reduceAdd, Nat.reduceSub, Nat.reduceMul, if_true, if_false, ↓reduceIte, forall_const, implies_true, reduceCtorEq, ne_eq, Nat.reduceBNe, Nat.reduceBEq, IntKind.signed, Nat.reduceEqDiff, Nat.reduceLeDiff, Nat.reduceLT, eq_self, Int.reduceEq, Int.reduceLT, Int.reduceLE, Int.reduceAdd, Int.reduceSub, VC.regC_nil, VC.regC_cons, VC.regCK_eq, VC.callQ, VC.tailQ, VC.goCall, VC.chStep]
  refine loop_slots Fa.mix [] [4, 5, 8, 9, 10, 11, 12, 13, 14, 15] (fun cnt vs wr => ∃ (left : Int → Prop) (n' : Nat) (m' : Int → Option Value), vs = [] ∧ RangeV Try.prog EJ wr b2 w.heap.size n2 m2 left cnt ∧ MapV Try.prog EJ wr b1 n' m' ∧ n' + cnt ≤ n1 + n2 ∧ Agree (fun k => k = b1 ∨ w.heap.size ≤ k) w wr ∧
      ∀ x, EJ.ok x → (left x → (m2 x).isSome = true ∧ m' x = m1 x) ∧ (¬ left x → m' x = if (m2 x).isSome = true then m2 x else m1 x)) n2 (by kernel_rfl) rfl
    ⟨_, n1, m1, rfl, hR, h1.below hB1, Nat.le_refl _, Agree.of_below hB1, fun x hx => ⟨fun h => ⟨h, rfl⟩, fun h => by rw [if_neg h]⟩⟩ ?_
  clear hR hB1 hs1
  rintro m vs u wr ⟨left, n', m', rfl, hR, hM, hnc, hA, hsp⟩
  simp -dsimp (maxSteps := 2000000) only [Fa.F67, VC.Now, VC.vc, VC.lib, VC.mapN_drewN, VC.mapB_drewN, VC.regQ, VC.loopK, VC.reg, VC.opP, VC.opS, VC.opZ, VC.nomulB, VC.pv, VC.thenF, VC.blkF, VC.retF, VC.resV, VC.oneV, VC.evo, VC.bin, VC.binI, VC.cmpI, VC.arithI, VC.ldv, VC.slv, VC.pickP, VC.holds, VC.chainOf, VC.look, VC.junk, VC.put, VC.eff, VC.callee, VC.pureB, VC.rdK, VC.rdKs, VC.okKs, VC.eqKs, VC.fillL, VC.putL, VC.stW, VC.stOK, VC.mixF, VC.setAll, Nat.reduceAdd, Nat.reduceSub, Nat.reduceMul, if_true, if_false, ↓reduceIte, forall_const, implies_true, reduceCtorEq, ne_eq, Nat.reduceBNe, Nat.reduceBEq, IntKind.signed, Nat.reduceEqDiff, Nat.reduceLeDiff, Nat.reduceLT, eq_self, Int.reduceEq, Int.reduceLT, Int.reduceLE, Int.reduceAdd, Int.reduceSub, VC.regC_nil, VC.regC_cons, VC.regCK_eq, VC.callQ, VC.tailQ, VC.goCall, VC.chStep]
  refine OPW_nextV hR rfl rfl (fun h0 hno => ?_) (fun x v w4 cnt' hx hlx hmx hR4 hlt hA4 hs4 hE => ?_)
  · rw [VC.Now, VC.seqK_eq]
    simp -dsimp (maxSteps := 2000000) only [Fa.F67, VC.Now, VC.vc, VC.lib, VC.mapN_drewN, VC.mapB_drewN, VC.regQ, VC.loopK, VC.reg, VC.opP, VC.opS, VC.opZ, VC.nomulB, VC.pv, VC.thenF, VC.blkF, VC.retF, VC.resV, VC.oneV, VC.evo, VC.bin, VC.binI, VC.cmpI, VC.arithI, VC.ldv, VC.slv, VC.pickP, VC.holds, VC.chainOf, VC.look, VC.junk, VC.put, VC.eff, VC.callee, VC.pureB, VC.rdK, VC.rdKs, VC.okKs, VC.eqKs, VC.fillL, VC.putL, VC.stW, VC.stOK, VC.mixF, VC.setAll, Nat.reduceAdd, Nat.reduceSub, Nat.reduceMul, if_true, if_false, ↓reduceIte, forall_const, implies_true, reduceCtorEq, ne_eq, Nat.reduceBNe, Nat.reduceBEq, IntKind.signed, Nat.reduceEqDiff, Nat.reduceLeDiff, Nat.reduceLT, eq_self, Int.reduceEq, Int.reduceLT, Int.reduceLE, Int.reduceAdd, Int.reduceSub, VC.regC_nil, VC.regC_cons, VC.regCK_eq, VC.callQ, VC.tailQ, VC.goCall, VC.chStep]
    exact ⟨n', m', hM, by omega, fun x hx => (hsp x hx).2 (hno x hx), hA⟩
  · have hM4 := hM.agree hA4 (fun e => by omega)
    have hK : EJ.K x = .int .i64 x := rfl
    have hv1 := hone x v hx hmx
    rw [VC.Now, VC.seqK_eq]
    simp -dsimp (maxSteps := 2000000) only [Fa.F67, VC.Now, VC.vc, VC.lib, VC.mapN_drewN, VC.mapB_drewN, VC.regQ, VC.loopK, VC.reg, VC.opP, VC.opS, VC.opZ, VC.nomulB, VC.pv, VC.thenF, VC.blkF, VC.retF, VC.resV, VC.oneV, VC.evo, VC.bin, VC.binI, VC.cmpI, VC.arithI, VC.ldv, VC.slv, VC.pickP, VC.holds, VC.chainOf, VC.look, VC.junk, VC.put, VC.eff, VC.callee, VC.pureB, VC.rdK, VC.rdKs, VC.okKs, VC.eqKs, VC.fillL, VC.putL, VC.stW, VC.stOK, VC.mixF, VC.setAll, Nat.reduceAdd, Nat.reduceSub, Nat.reduceMul, if_true, if_false, ↓reduceIte, forall_const, implies_true, reduceCtorEq, ne_eq, Nat.reduceBNe, Nat.reduceBEq, IntKind.signed, Nat.reduceEqDiff, Nat.reduceLeDiff, Nat.reduceLT, eq_self, Int.reduceEq, Int.reduceLT, Int.reduceLE, Int.reduceAdd, Int.reduceSub, VC.regC_nil, VC.regC_cons, VC.regCK_eq, VC.callQ, VC.tailQ, VC.goCall, VC.chStep]
    refine OPW_entryV hE rfl rfl ?_
    rw [VC.Now, VC.seqK_eq]
    simp -dsimp (maxSteps := 2000000) only [Fa.F67, VC.Now, VC.vc, VC.lib, VC.mapN_drewN, VC.mapB_drewN, VC.regQ, VC.loopK, VC.reg, VC.opP, VC.opS, VC.opZ, VC.nomulB, VC.pv, VC.thenF, VC.blkF, VC.retF, VC.resV, VC.oneV, VC.evo, VC.bin, VC.binI, VC.cmpI, VC.arithI, VC.ldv, VC.slv, VC.pickP, VC.holds, VC.chainOf, VC.look, VC.junk, VC.put, VC.eff, VC.callee, VC.pureB, VC.rdK, VC.rdKs, VC.okKs, VC.eqKs, VC.fillL, VC.putL, VC.stW, VC.stOK, VC.mixF, VC.setAll, Nat.reduceAdd, Nat.reduceSub, Nat.reduceMul, if_true, if_false, ↓reduceIte, forall_const, implies_true, reduceCtorEq, ne_eq, Nat.reduceBNe, Nat.reduceBEq, IntKind.signed, Nat.reduceEqDiff, Nat.reduceLeDiff, Nat.reduceLT, eq_self, Int.reduceEq, Int.reduceLT, Int.reduceLE, Int.reduceAdd, Int.reduceSub, VC.regC_nil, VC.regC_cons, VC.regCK_eq, VC.callQ, VC.tailQ, VC.goCall, VC.chStep]
    refine OPW_updV (x := x) (c := v) hM4 rfl (by kernel_rfl) rfl rfl rfl hx (by unfold maxLen; omega) fun w6 hM6 ht6 => ?_
    have hA6 := mapTurned_agree (X := fun j => j = b1) ht6 rfl
    rw [VC.Now, VC.seqK_eq]
    simp -dsimp (maxSteps := 2000000) only [Fa.F67, VC.Now, VC.vc, VC.lib, VC.mapN_drewN, VC.mapB_drewN, VC.regQ, VC.loopK, VC.reg, VC.opP, VC.opS, VC.opZ, VC.nomulB, VC.pv, VC.thenF, VC.blkF, VC.retF, VC.resV, VC.oneV, VC.evo, VC.bin, VC.binI, VC.cmpI, VC.arithI, VC.ldv, VC.slv, VC.pickP, VC.holds, VC.chainOf, VC.look, VC.junk, VC.put, VC.eff, VC.callee, VC.pureB, VC.rdK, VC.rdKs, VC.okKs, VC.eqKs, VC.fillL, VC.putL, VC.stW, VC.stOK, VC.mixF, VC.setAll, Nat.reduceAdd, Nat.reduceSub, Nat.reduceMul, if_true, if_false, ↓reduceIte, forall_const, implies_true, reduceCtorEq, ne_eq, Nat.reduceBNe, Nat.reduceBEq, IntKind.signed, Nat.reduceEqDiff, Nat.reduceLeDiff, Nat.reduceLT, eq_self, Int.reduceEq, Int.reduceLT, Int.reduceLE, Int.reduceAdd, Int.reduceSub, VC.regC_nil, VC.regC_cons, VC.regCK_eq, VC.callQ, VC.tailQ, VC.goCall, VC.chStep]
    refine ⟨SAME.intro (by kernel_rfl), cnt', hlt, fun y => left y ∧ y ≠ x, _, _, hR4.agree hA6 (fun e => hne e.symm) (fun e => by omega), hM6, ?_, ?_, fun y hy => ?_⟩
    · split <;> omega
    · exact (hA.trans (hA4.mono fun k _ hk => Or.inr (by omega))).trans (hA6.mono fun k _ hk => Or.inl hk)
    · by_cases e : y = x
      · subst e
        refine ⟨fun hh => absurd rfl hh.2, fun _ => ?_⟩
        rw [updV_same, hmx]; rfl
      · refine ⟨fun hh => ⟨((hsp y hy).1 hh.1).1, by rw [updV_other e]; exact ((hsp y hy).1 hh.1).2⟩, fun hh => by rw [updV_other e]; exact (hsp y hy).2 fun h3 => hh ⟨h3, e⟩⟩
end Go.Proofs.Ytelfmhiaafkimaa
