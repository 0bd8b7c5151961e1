/- One word for all: how many messages have not come (slices.Clone, IndexFunc, DeleteFunc of messages). -/
import Derived.Test.YtelfmhiaafkimaaBra1
import Derived.Test.YtelfmhiaafkimaaClearK
import Derived.Test.YtelfmhiaafkimaaAway
import Derived.Test.YtelfmhiaafkimaaAppM
namespace Go.Proofs.Ytelfmhiaafkimaa
open Go Go.RowKit Go.VC
set_option linter.unusedSimpArgs false
set_option linter.unusedVariables false
theorem come_test (x : Note) (w : World) : Calls Try.prog 74 #[.agg #[iV x.fr, iV x.to, iV x.what, iV x.n, .bool x.come]] w fun e w' => e = .returned (.bool x.come) ∧ Below w.heap.size w w' := by
  refine calls_vc (rs := [.tmp 2]) Fa.mix Try.func74 rfl Try.ntmps74 rfl (by kernel_rfl) (Nat.le_of_ble_eq_true rfl) ?_
  simp -dsimp (maxSteps := 2000000) only [Fa.F74, VC.Now, VC.vc, VC.lib, VC.mapN_drewN, VC.mapB_drewN, VC.regQ, VC.loopK, VC.reg, VC.opP, VC.opS, VC.opZ, VC.nomulB, VC.pv, VC.thenF, VC.blkF, VC.retF, VC.resV, VC.oneV, VC.evo, VC.bin, VC.binI, VC.cmpI, VC.arithI, VC.ldv, VC.slv, VC.pickP, VC.holds, VC.chainOf, VC.look, VC.junk, VC.put, VC.eff, VC.callee, VC.pureB, VC.rdK, VC.rdKs, VC.okKs, VC.eqKs, VC.fillL, VC.putL, VC.stW, VC.stOK, VC.mixF, VC.setAll, Nat.reduceAdd, Nat.reduceSub, Nat.reduceMul, if_true, if_false, ↓reduceIte, forall_const, implies_true, reduceCtorEq, ne_eq, Nat.reduceBNe, Nat.reduceBEq, IntKind.signed, Nat.reduceEqDiff, Nat.reduceLeDiff, Nat.reduceLT, eq_self, Int.reduceEq, Int.reduceLT, Int.reduceLE, Int.reduceAdd, Int.reduceSub, VC.regC_nil, VC.regC_cons, VC.regCK_eq, VC.callQ, VC.tailQ, VC.goCall, VC.chStep]
  exact (Below.refl _ _).alloc (Nat.le_refl _) _
theorem tab_at {w : World} {b o k : Nat} {l : List Note} (hc : ∀ i, i < l.length → ∀ (j : Nat) (v : Value), (noteL (l.getD i note0))[j]? = some v → w.cell? ⟨b, o + i * 5 + j, none⟩ = some v) (hk : k < l.length) :
    w.cell? ⟨b, o + k * 5, none⟩ = some (iV (l.getD k note0).fr) ∧ w.cell? ⟨b, o + k * 5 + 1, none⟩ = some (iV (l.getD k note0).to) ∧ w.cell? ⟨b, o + k * 5 + 2, none⟩ = some (iV (l.getD k note0).what) ∧ w.cell? ⟨b, o + k * 5 + 3, none⟩ = some (iV (l.getD k note0).n) ∧ w.cell? ⟨b, o + k * 5 + 4, none⟩ = some (.bool (l.getD k note0).come) :=
  ⟨hc k hk 0 _ rfl, hc k hk 1 _ rfl, hc k hk 2 _ rfl, hc k hk 3 _ rfl, hc k hk 4 _ rfl⟩
theorem take_none {l : List Note} {k : Nat} (hk : k < l.length) (h : ∀ x ∈ l.take k, x.come = false) (hx : (l.getD k note0).come = false) : ∀ x ∈ l.take (k + 1), x.come = false := by
  intro x hm
  rw [List.take_succ_eq_append_getElem hk] at hm
  rcases List.mem_append.1 hm with hm | hm
  · exact h x hm
  · rw [List.mem_singleton.1 hm]
    have : l.getD k note0 = l[k] := by simp [List.getD, hk]
    rw [this] at hx; exact hx
set_option maxHeartbeats 2000000 in
theorem idxMsg_any (A : Option Addr) (c : Nat) (l : List Note) (w : World) (hr : RdT w A l.length 5 (fun i => noteL (l.getD i note0))) (hl : l.length ≤ 100000) :
    Calls Try.prog 109 #[.slice A l.length c, .func (.func 74) #[] #[]] w fun e w' => ∃ j : Int, e = .returned (iV j) ∧ Below w.heap.size w w' ∧ ((j = -1 ∧ ∀ x ∈ l, x.come = false) ∨ ∃ k : Nat, j = k ∧ k < l.length ∧ (l.getD k note0).come = true ∧ ∀ x ∈ l.take k, x.come = false) := by
  refine calls_vc (rs := [.tmp 4]) Fa.mix Try.func109 rfl Try.ntmps109 rfl (by kernel_rfl) (Nat.le_of_ble_eq_true rfl) ?_
  simp -dsimp (maxSteps := 2000000) only [Fa.F109, VC.Now, VC.vc, VC.lib, VC.mapN_drewN, VC.mapB_drewN, VC.regQ, VC.loopK, VC.reg, VC.opP, VC.opS, VC.opZ, VC.nomulB, VC.pv, VC.thenF, VC.blkF, VC.retF, VC.resV, VC.oneV, VC.evo, VC.bin, VC.binI, VC.cmpI, VC.arithI, VC.ldv, VC.slv, VC.pickP, VC.holds, VC.chainOf, VC.look, VC.junk, VC.put, VC.eff, VC.callee, VC.pureB, VC.rdK, VC.rdKs, VC.okKs, VC.eqKs, VC.fillL, VC.putL, VC.stW, VC.stOK, VC.mixF, VC.setAll, Nat.reduceAdd, Nat.reduceSub, Nat.reduceMul, if_true, if_false, ↓reduceIte, forall_const, implies_true, reduceCtorEq, ne_eq, Nat.reduceBNe, Nat.reduceBEq, IntKind.signed, Nat.reduceEqDiff, Nat.reduceLeDiff, Nat.reduceLT, eq_self, Int.reduceEq, Int.reduceLT, Int.reduceLE, Int.reduceAdd, Int.reduceSub, VC.regC_nil, VC.regC_cons, VC.regCK_eq, VC.callQ, VC.tailQ, VC.goCall, VC.chStep]
  refine loop_slots Fa.mix [8] [4, 5, 9, 10, 11, 12, 13, 14, 15, 16, 17, 18] (fun m vs wr => ∃ k : Nat, k + m = l.length ∧ vs = [.int .i64 k] ∧ Below w.heap.size w wr ∧ ∀ x ∈ l.take k, x.come = false) l.length (by kernel_rfl) rfl
    ⟨0, by omega, rfl, Below.refl _ _, by simp⟩ ?_
  rintro m vs u wr ⟨k, hkm, rfl, hB, hno⟩
  by_cases hk : k < l.length
  · have e1 : ((k : Int) < (l.length : Int)) = True := eq_true (by omega)
    obtain ⟨b, o, rfl, hb, hc⟩ := (hr.below hB) (by omega)
    obtain ⟨m0, m1, m2, m3, m4⟩ := tab_at hc hk
    have hg : VC.callB Try.prog 74 = true := by kernel_rfl
    simp -dsimp (maxSteps := 2000000) only [Fa.F109, e1, rdI_of m0, m0, rdI_of m1, m1, rdI_of m2, m2, rdI_of m3, m3, rdB_of m4, m4, hb, hg, Int.toNat_natCast, VC.Now, VC.vc, VC.lib, VC.mapN_drewN, VC.mapB_drewN, VC.regQ, VC.loopK, VC.reg, VC.opP, VC.opS, VC.opZ, VC.nomulB, VC.pv, VC.thenF, VC.blkF, VC.retF, VC.resV, VC.oneV, VC.evo, VC.bin, VC.binI, VC.cmpI, VC.arithI, VC.ldv, VC.slv, VC.pickP, VC.holds, VC.chainOf, VC.look, VC.junk, VC.put, VC.eff, VC.callee, VC.pureB, VC.rdK, VC.rdKs, VC.okKs, VC.eqKs, VC.fillL, VC.putL, VC.stW, VC.stOK, VC.mixF, VC.setAll, Nat.reduceAdd, Nat.reduceSub, Nat.reduceMul, if_true, if_false, ↓reduceIte, forall_const, implies_true, reduceCtorEq, ne_eq, Nat.reduceBNe, Nat.reduceBEq, IntKind.signed, Nat.reduceEqDiff, Nat.reduceLeDiff, Nat.reduceLT, eq_self, Int.reduceEq, Int.reduceLT, Int.reduceLE, Int.reduceAdd, Int.reduceSub, VC.regC_nil, VC.regC_cons, VC.regCK_eq, VC.callQ, VC.tailQ, VC.goCall, VC.chStep]
    refine ⟨by omega, ?_⟩
    refine CALL_of (come_test (l.getD k note0) wr) fun w1 hB1 => ?_
    have hB2 := hB.trans (hB1.mono hB.size)
    rw [VC.Now, VC.seqK_eq]
    cases hx : (l.getD k note0).come with
    | true =>
      simp -dsimp (maxSteps := 2000000) only [Fa.F109, VC.Now, VC.vc, VC.lib, VC.mapN_drewN, VC.mapB_drewN, VC.regQ, VC.loopK, VC.reg, VC.opP, VC.opS, VC.opZ, VC.nomulB, VC.pv, VC.thenF, VC.blkF, VC.retF, VC.resV, VC.oneV, VC.evo, VC.bin, VC.binI, VC.cmpI, VC.arithI, VC.ldv, VC.slv, VC.pickP, VC.holds, VC.chainOf, VC.look, VC.junk, VC.put, VC.eff, VC.callee, VC.pureB, VC.rdK, VC.rdKs, VC.okKs, VC.eqKs, VC.fillL, VC.putL, VC.stW, VC.stOK, VC.mixF, VC.setAll, Nat.reduceAdd, Nat.reduceSub, Nat.reduceMul, if_true, if_false, ↓reduceIte, forall_const, implies_true, reduceCtorEq, ne_eq, Nat.reduceBNe, Nat.reduceBEq, IntKind.signed, Nat.reduceEqDiff, Nat.reduceLeDiff, Nat.reduceLT, eq_self, Int.reduceEq, Int.reduceLT, Int.reduceLE, Int.reduceAdd, Int.reduceSub, VC.regC_nil, VC.regC_cons, VC.regCK_eq, VC.callQ, VC.tailQ, VC.goCall, VC.chStep]
      exact ⟨_, rfl, hB2, Or.inr ⟨k, rfl, hk, hx, hno⟩⟩
    | false =>
      simp -dsimp (maxSteps := 2000000) only [Fa.F109, VC.Now, VC.vc, VC.lib, VC.mapN_drewN, VC.mapB_drewN, VC.regQ, VC.loopK, VC.reg, VC.opP, VC.opS, VC.opZ, VC.nomulB, VC.pv, VC.thenF, VC.blkF, VC.retF, VC.resV, VC.oneV, VC.evo, VC.bin, VC.binI, VC.cmpI, VC.arithI, VC.ldv, VC.slv, VC.pickP, VC.holds, VC.chainOf, VC.look, VC.junk, VC.put, VC.eff, VC.callee, VC.pureB, VC.rdK, VC.rdKs, VC.okKs, VC.eqKs, VC.fillL, VC.putL, VC.stW, VC.stOK, VC.mixF, VC.setAll, Nat.reduceAdd, Nat.reduceSub, Nat.reduceMul, if_true, if_false, ↓reduceIte, forall_const, implies_true, reduceCtorEq, ne_eq, Nat.reduceBNe, Nat.reduceBEq, IntKind.signed, Nat.reduceEqDiff, Nat.reduceLeDiff, Nat.reduceLT, eq_self, Int.reduceEq, Int.reduceLT, Int.reduceLE, Int.reduceAdd, Int.reduceSub, VC.regC_nil, VC.regC_cons, VC.regCK_eq, VC.callQ, VC.tailQ, VC.goCall, VC.chStep]
      exact ⟨fits_i64_nat (by omega), SAME.intro (by kernel_rfl), m - 1, by omega, k + 1, by omega, rfl, hB2, take_none hk hno hx⟩
  · obtain rfl : k = l.length := by omega
    have e1 : ((l.length : Int) < (l.length : Int)) = False := eq_false (by omega)
    rw [List.take_length] at hno
    simp -dsimp (maxSteps := 2000000) only [Fa.F109, e1, VC.Now, VC.vc, VC.lib, VC.mapN_drewN, VC.mapB_drewN, VC.regQ, VC.loopK, VC.reg, VC.opP, VC.opS, VC.opZ, VC.nomulB, VC.pv, VC.thenF, VC.blkF, VC.retF, VC.resV, VC.oneV, VC.evo, VC.bin, VC.binI, VC.cmpI, VC.arithI, VC.ldv, VC.slv, VC.pickP, VC.holds, VC.chainOf, VC.look, VC.junk, VC.put, VC.eff, VC.callee, VC.pureB, VC.rdK, VC.rdKs, VC.okKs, VC.eqKs, VC.fillL, VC.putL, VC.stW, VC.stOK, VC.mixF, VC.setAll, Nat.reduceAdd, Nat.reduceSub, Nat.reduceMul, if_true, if_false, ↓reduceIte, forall_const, implies_true, reduceCtorEq, ne_eq, Nat.reduceBNe, Nat.reduceBEq, IntKind.signed, Nat.reduceEqDiff, Nat.reduceLeDiff, Nat.reduceLT, eq_self, Int.reduceEq, Int.reduceLT, Int.reduceLE, Int.reduceAdd, Int.reduceSub, VC.regC_nil, VC.regC_cons, VC.regCK_eq, VC.callQ, VC.tailQ, VC.goCall, VC.chStep]
    exact ⟨_, rfl, hB, Or.inl ⟨rfl, hno⟩⟩
/-- How many of the first k have not come. -/
def awayN (l : List Note) (k : Nat) : Nat := (l.take k).countP fun x => !x.come
theorem awayN_succ {l : List Note} {k : Nat} (hk : k < l.length) : awayN l (k + 1) = awayN l k + if (l.getD k note0).come = true then 0 else 1 := by
  unfold awayN
  have : l.getD k note0 = l[k] := by simp [List.getD, hk]
  rw [List.take_succ_eq_append_getElem hk, List.countP_append, this]
  cases h : l[k].come <;> simp [h]
theorem awayN_le (l : List Note) (k : Nat) : awayN l k ≤ k := by
  unfold awayN
  exact Nat.le_trans List.countP_le_length (by rw [List.length_take]; omega)
theorem awayN_all {l : List Note} {k : Nat} (h : ∀ x ∈ l.take k, x.come = false) (hk : k ≤ l.length) : awayN l k = k := by
  unfold awayN
  rw [List.countP_eq_length.2 fun x hx => by rw [h x hx]; rfl, List.length_take]; omega
set_option maxHeartbeats 4000000 in
theorem delMsg_any {B : Nat} (v : Value) (l : List Note) (w : World) (ho : OwnK w B 226 5 l.length v (l.flatMap noteL)) (hl : l.length ≤ 100000) :
    Calls Try.prog 75 #[v, .func (.func 74) #[] #[]] w fun e w' => (∃ A c, e = .returned (.slice A (awayN l l.length) c)) ∧ Agree (fun j => v.ownBlock = some j) w w' := by
  obtain ⟨A, c, rfl, _⟩ := id ho
  have hr := RdT.ownL ho noteL_len note0
  refine calls_vc (rs := [.tmp 4]) Fa.mix Try.func75 rfl Try.ntmps75 rfl (by kernel_rfl) (Nat.le_of_ble_eq_true rfl) ?_
  simp -dsimp (maxSteps := 2000000) only [Fa.F75, VC.Now, VC.vc, VC.lib, VC.mapN_drewN, VC.mapB_drewN, VC.regQ, VC.loopK, VC.reg, VC.opP, VC.opS, VC.opZ, VC.nomulB, VC.pv, VC.thenF, VC.blkF, VC.retF, VC.resV, VC.oneV, VC.evo, VC.bin, VC.binI, VC.cmpI, VC.arithI, VC.ldv, VC.slv, VC.pickP, VC.holds, VC.chainOf, VC.look, VC.junk, VC.put, VC.eff, VC.callee, VC.pureB, VC.rdK, VC.rdKs, VC.okKs, VC.eqKs, VC.fillL, VC.putL, VC.stW, VC.stOK, VC.mixF, VC.setAll, Nat.reduceAdd, Nat.reduceSub, Nat.reduceMul, if_true, if_false, ↓reduceIte, forall_const, implies_true, reduceCtorEq, ne_eq, Nat.reduceBNe, Nat.reduceBEq, IntKind.signed, Nat.reduceEqDiff, Nat.reduceLeDiff, Nat.reduceLT, eq_self, Int.reduceEq, Int.reduceLT, Int.reduceLE, Int.reduceAdd, Int.reduceSub, VC.regC_nil, VC.regC_cons, VC.regCK_eq, VC.callQ, VC.tailQ, VC.goCall, VC.chStep]
  refine CALL_by (idxMsg_any A c l w hr hl) ?_
  rintro _ w1 ⟨j, rfl, hB1, hj⟩
  rcases hj with ⟨rfl, hno⟩ | ⟨k, rfl, hk, hx, hno⟩
  · refine ⟨_, rfl, ?_⟩
    rw [VC.Now, VC.seqK_eq]
    have e1 : ((-1 : Int) = -1) = True := eq_true rfl
    simp -dsimp (maxSteps := 2000000) only [Fa.F75, e1, VC.Now, VC.vc, VC.lib, VC.mapN_drewN, VC.mapB_drewN, VC.regQ, VC.loopK, VC.reg, VC.opP, VC.opS, VC.opZ, VC.nomulB, VC.pv, VC.thenF, VC.blkF, VC.retF, VC.resV, VC.oneV, VC.evo, VC.bin, VC.binI, VC.cmpI, VC.arithI, VC.ldv, VC.slv, VC.pickP, VC.holds, VC.chainOf, VC.look, VC.junk, VC.put, VC.eff, VC.callee, VC.pureB, VC.rdK, VC.rdKs, VC.okKs, VC.eqKs, VC.fillL, VC.putL, VC.stW, VC.stOK, VC.mixF, VC.setAll, Nat.reduceAdd, Nat.reduceSub, Nat.reduceMul, if_true, if_false, ↓reduceIte, forall_const, implies_true, reduceCtorEq, ne_eq, Nat.reduceBNe, Nat.reduceBEq, IntKind.signed, Nat.reduceEqDiff, Nat.reduceLeDiff, Nat.reduceLT, eq_self, Int.reduceEq, Int.reduceLT, Int.reduceLE, Int.reduceAdd, Int.reduceSub, VC.regC_nil, VC.regC_cons, VC.regCK_eq, VC.callQ, VC.tailQ, VC.goCall, VC.chStep]
    refine ⟨⟨A, c, ?_⟩, Agree.of_below hB1⟩
    rw [awayN_all (by rw [List.take_length]; exact hno) (Nat.le_refl _)]
  refine ⟨_, rfl, ?_⟩
  rw [VC.Now, VC.seqK_eq]
  have e1 : ((k : Int) = -1) = False := eq_false (by omega)
  obtain ⟨g, c2, hgc, hgB, hgl⟩ := ho.form (by omega)
  simp only [Value.slice.injEq] at hgc
  obtain ⟨rfl, _, rfl⟩ := hgc
  have hg : VC.callB Try.prog 74 = true := by kernel_rfl
  have hrec : Recs w g l.length 5 (fun i => noteL (l.getD i note0)) := Recs.of_own ho hgl fun i hi j hj => by
    rw [flat_at noteL_len hi hj]
    have : l.getD i note0 = l[i] := by simp [List.getD, hi]
    rw [this]
  have hk1 : awayN l (k + 1) = k := by rw [awayN_succ hk, if_pos hx, awayN_all hno (by omega)]; rfl
  simp -dsimp (maxSteps := 2000000) only [Fa.F75, e1, VC.Now, VC.vc, VC.lib, VC.mapN_drewN, VC.mapB_drewN, VC.regQ, VC.loopK, VC.reg, VC.opP, VC.opS, VC.opZ, VC.nomulB, VC.pv, VC.thenF, VC.blkF, VC.retF, VC.resV, VC.oneV, VC.evo, VC.bin, VC.binI, VC.cmpI, VC.arithI, VC.ldv, VC.slv, VC.pickP, VC.holds, VC.chainOf, VC.look, VC.junk, VC.put, VC.eff, VC.callee, VC.pureB, VC.rdK, VC.rdKs, VC.okKs, VC.eqKs, VC.fillL, VC.putL, VC.stW, VC.stOK, VC.mixF, VC.setAll, Nat.reduceAdd, Nat.reduceSub, Nat.reduceMul, if_true, if_false, ↓reduceIte, forall_const, implies_true, reduceCtorEq, ne_eq, Nat.reduceBNe, Nat.reduceBEq, IntKind.signed, Nat.reduceEqDiff, Nat.reduceLeDiff, Nat.reduceLT, eq_self, Int.reduceEq, Int.reduceLT, Int.reduceLE, Int.reduceAdd, Int.reduceSub, VC.regC_nil, VC.regC_cons, VC.regCK_eq, VC.callQ, VC.tailQ, VC.goCall, VC.chStep]
  refine ⟨fits_i64_nat (by omega), ?_⟩
  refine loop_slots Fa.mix [5, 6] [7, 16, 17, 18, 19, 20, 21, 22, 23, 24, 25, 26, 27, 28, 29, 30, 31, 32, 33, 34, 35] (fun m vs wr => ∃ (j : Nat) (cs : Nat → List Value) (xs : List Value), j + m = l.length ∧ vs = [.int .i64 (awayN l j), .int .i64 j] ∧ awayN l j < j ∧ Agree (fun b => b = g) w wr ∧ Recs wr g l.length 5 cs ∧ (∀ i, i < l.length → (cs i).length = 5) ∧ (∀ i, j ≤ i → i < l.length → cs i = noteL (l.getD i note0)) ∧ OwnK wr B 226 5 l.length (.slice (some ⟨g, 0, none⟩) l.length c) xs) (l.length - (k + 1)) (by kernel_rfl) rfl
    ⟨k + 1, _, _, by omega, by rw [hk1]; rfl, by omega, Agree.of_below hB1, hrec.below hB1, fun i _ => rfl, fun i _ _ => rfl, ho.below hB1⟩ ?_
  rintro m vs u wr ⟨j, cs, xs, hjm, rfl, hlt, hA, hR, hcl, hcs, hO⟩
  by_cases hj : j < l.length
  · have e2 : ((j : Int) < (l.length : Int)) = True := eq_true (by omega)
    have hcj := hcs j (Nat.le_refl _) hj
    have m0 := hR.at hj (j := 0) (v := iV (l.getD j note0).fr) (by omega) (by rw [hcj]; rfl)
    have m1 := hR.at hj (j := 1) (v := iV (l.getD j note0).to) (by omega) (by rw [hcj]; rfl)
    have m2 := hR.at hj (j := 2) (v := iV (l.getD j note0).what) (by omega) (by rw [hcj]; rfl)
    have m3 := hR.at hj (j := 3) (v := iV (l.getD j note0).n) (by omega) (by rw [hcj]; rfl)
    have m4 := hR.at hj (j := 4) (v := .bool (l.getD j note0).come) (by omega) (by rw [hcj]; rfl)
    rw [Nat.add_zero] at m0
    have hgl1 := hR.1
    obtain ⟨f1, f2, f3⟩ := boxMade wr [iV 0, iV 0, iV 0, iV 0, .bool false] (noteL (l.getD j note0)) 226 rfl (by intro v hv; simp at hv; rcases hv with rfl | rfl | rfl | rfl | rfl <;> rfl)
    have k0 := f2.at (i := 0) rfl
    have k1 := f2.at (i := 1) rfl
    have k2 := f2.at (i := 2) rfl
    have k3 := f2.at (i := 3) rfl
    have k4 := f2.at (i := 4) rfl
    have hkl := f2.1
    simp -dsimp (maxSteps := 2000000) only [Fa.F75, e2, rdI_of m0, m0, rdI_of m1, m1, rdI_of m2, m2, rdI_of m3, m3, rdB_of m4, m4, hgl1, hg, rdI_of k0, k0, rdI_of k1, k1, rdI_of k2, k2, rdI_of k3, k3, rdB_of k4, k4, hkl, Int.toNat_natCast, Nat.zero_add, VC.Now, VC.vc, VC.lib, VC.mapN_drewN, VC.mapB_drewN, VC.regQ, VC.loopK, VC.reg, VC.opP, VC.opS, VC.opZ, VC.nomulB, VC.pv, VC.thenF, VC.blkF, VC.retF, VC.resV, VC.oneV, VC.evo, VC.bin, VC.binI, VC.cmpI, VC.arithI, VC.ldv, VC.slv, VC.pickP, VC.holds, VC.chainOf, VC.look, VC.junk, VC.put, VC.eff, VC.callee, VC.pureB, VC.rdK, VC.rdKs, VC.okKs, VC.eqKs, VC.fillL, VC.putL, VC.mixF, VC.setAll, Nat.reduceAdd, Nat.reduceSub, Nat.reduceMul, if_true, if_false, ↓reduceIte, forall_const, implies_true, reduceCtorEq, ne_eq, Nat.reduceBNe, Nat.reduceBEq, IntKind.signed, Nat.reduceEqDiff, Nat.reduceLeDiff, Nat.reduceLT, eq_self, Int.reduceEq, Int.reduceLT, Int.reduceLE, Int.reduceAdd, Int.reduceSub, VC.regC_nil, VC.regC_cons, VC.regCK_eq, VC.callQ, VC.tailQ, VC.goCall, VC.chStep]
    refine ⟨by omega, f1, ?_⟩
    have hbg : wr.heap.size ≠ g := by omega
    have hA2 : Agree (fun b => b = g) w (stW (wr.alloc (.cells #[iV 0, iV 0, iV 0, iV 0, .bool false] 226)) ⟨wr.heap.size, 0, none⟩ 0 (noteL (l.getD j note0))) := hA.trans (Agree.of_below f3)
    have hR2 := hR.below f3
    have hO2 := hO.below f3
    clear k0 k1 k2 k3 k4 hkl m0 m1 m2 m3 m4 hgl1 f1 f3
    change CALL _ _ _ (stW (wr.alloc (.cells [iV 0, iV 0, iV 0, iV 0, .bool false].toArray 226)) ⟨wr.heap.size, 0, none⟩ 0 (noteL (l.getD j note0))) _
    generalize stW (wr.alloc (.cells [iV 0, iV 0, iV 0, iV 0, .bool false].toArray 226)) ⟨wr.heap.size, 0, none⟩ 0 (noteL (l.getD j note0)) = w2 at f2 hA2 hR2 hO2 ⊢
    refine CALL_of (come_test (l.getD j note0) w2) fun w3 hB3 => ?_
    have bx := f2.below hB3
    have hA3 := hA2.trans (Agree.of_below hB3)
    have hR3 := hR2.below hB3
    have hO3 := hO2.below hB3
    clear f2 hA2 hR2 hO2
    generalize wr.heap.size = b at bx hbg ⊢
    rw [VC.Now, VC.seqK_eq]
    have hsu := awayN_succ hj
    cases hcx : (l.getD j note0).come with
    | true =>
      rw [hcx, if_pos rfl, Nat.add_zero] at hsu
      simp -dsimp (maxSteps := 2000000) only [Fa.F75, VC.Now, VC.vc, VC.lib, VC.mapN_drewN, VC.mapB_drewN, VC.regQ, VC.loopK, VC.reg, VC.opP, VC.opS, VC.opZ, VC.nomulB, VC.pv, VC.thenF, VC.blkF, VC.retF, VC.resV, VC.oneV, VC.evo, VC.bin, VC.binI, VC.cmpI, VC.arithI, VC.ldv, VC.slv, VC.pickP, VC.holds, VC.chainOf, VC.look, VC.junk, VC.put, VC.eff, VC.callee, VC.pureB, VC.rdK, VC.rdKs, VC.okKs, VC.eqKs, VC.fillL, VC.putL, VC.stW, VC.stOK, VC.mixF, VC.setAll, Nat.reduceAdd, Nat.reduceSub, Nat.reduceMul, if_true, if_false, ↓reduceIte, forall_const, implies_true, reduceCtorEq, ne_eq, Nat.reduceBNe, Nat.reduceBEq, IntKind.signed, Nat.reduceEqDiff, Nat.reduceLeDiff, Nat.reduceLT, eq_self, Int.reduceEq, Int.reduceLT, Int.reduceLE, Int.reduceAdd, Int.reduceSub, VC.regC_nil, VC.regC_cons, VC.regCK_eq, VC.callQ, VC.tailQ, VC.goCall, VC.chStep]
      exact ⟨fits_i64_nat (by omega), SAME.intro (by kernel_rfl), m - 1, by omega, j + 1, cs, xs, by omega, by rw [hsu]; rfl, by omega, hA3, hR3, hcl, fun i h1 h2 => hcs i (by omega) h2, hO3⟩
    | false =>
    rw [hcx, if_neg (by simp)] at hsu
    have k0 := bx.at (i := 0) rfl
    have k1 := bx.at (i := 1) rfl
    have k2 := bx.at (i := 2) rfl
    have k3 := bx.at (i := 3) rfl
    have k4 := bx.at (i := 4) rfl
    have hkl := bx.1
    have hHp : Hp 0 [oRecs g l.length 5 cs] w3 := ⟨fun o ho => by rw [List.mem_singleton.1 ho]; exact ⟨hR3, fun _ _ => Nat.zero_le _⟩, List.pairwise_singleton .., Nat.zero_le _⟩
    obtain ⟨g1, st⟩ := hHp.recAll (i := 0) (a := awayN l j) (vs := noteL (l.getD j note0)) rfl (by omega) (hcl _ (by omega)) rfl (by intro v hv; simp at hv; rcases hv with rfl | rfl | rfl | rfl | rfl <;> rfl)
    obtain ⟨xs', hO4⟩ := OwnK.stAny (noteL (l.getD j note0)) w3 (awayN l j * 5) 0 xs hO3
    have hR4 : Recs _ g l.length 5 (upd cs (awayN l j) (noteL (l.getD j note0))) := st.hp.get 0 rfl
    have hA4 := hA3.trans (st.agree.mono fun b _ hb => by rcases foot_cons.1 hb with h9 | h9; · cases h9; rfl
                                                          · exact absurd h9 (by rw [foot_nil]; exact id))
    simp -dsimp (maxSteps := 2000000) only [Fa.F75, rdI_of k0, k0, rdI_of k1, k1, rdI_of k2, k2, rdI_of k3, k3, rdB_of k4, k4, hkl, Int.toNat_natCast, Nat.zero_add, VC.Now, VC.vc, VC.lib, VC.mapN_drewN, VC.mapB_drewN, VC.regQ, VC.loopK, VC.reg, VC.opP, VC.opS, VC.opZ, VC.nomulB, VC.pv, VC.thenF, VC.blkF, VC.retF, VC.resV, VC.oneV, VC.evo, VC.bin, VC.binI, VC.cmpI, VC.arithI, VC.ldv, VC.slv, VC.pickP, VC.holds, VC.chainOf, VC.look, VC.junk, VC.put, VC.eff, VC.callee, VC.pureB, VC.rdK, VC.rdKs, VC.okKs, VC.eqKs, VC.fillL, VC.putL, VC.mixF, VC.setAll, Nat.reduceAdd, Nat.reduceSub, Nat.reduceMul, if_true, if_false, ↓reduceIte, forall_const, implies_true, reduceCtorEq, ne_eq, Nat.reduceBNe, Nat.reduceBEq, IntKind.signed, Nat.reduceEqDiff, Nat.reduceLeDiff, Nat.reduceLT, eq_self, Int.reduceEq, Int.reduceLT, Int.reduceLE, Int.reduceAdd, Int.reduceSub, VC.regC_nil, VC.regC_cons, VC.regCK_eq, VC.callQ, VC.tailQ, VC.goCall, VC.chStep]
    exact ⟨⟨by omega, by omega⟩, g1, fits_i64_nat (by omega), fits_i64_nat (by omega), SAME.intro (by kernel_rfl), m - 1, by omega, j + 1, upd cs (awayN l j) (noteL (l.getD j note0)), xs', by omega, by rw [hsu]; rfl, by omega, hA4, hR4, fun i hi => by
      by_cases e : i = awayN l j
      · rw [e, upd_same]; rfl
      · rw [upd_other e]; exact hcl i hi, fun i h1 h2 => by rw [upd_other (by omega)]; exact hcs i (by omega) h2, hO4⟩
  obtain rfl : j = l.length := by omega
  have e2 : ((l.length : Int) < (l.length : Int)) = False := eq_false (by omega)
  have hcap : l.length ≤ c := by
    obtain ⟨A', c', hv, h1, h2⟩ := ho
    cases hv
    rcases h2 with ⟨h3, _⟩ | ⟨g', cap, cur, h3, h4, h5, h6, _⟩
    · cases h3
    · cases h3; exact h6
  have ec : (c = awayN l l.length) = False := eq_false (by omega)
  obtain ⟨cur, hcur, hcz⟩ := hO.cells
  simp -dsimp (maxSteps := 2000000) only [Fa.F75, e2, ec, if_false, VC.Now, VC.vc, VC.lib, VC.mapN_drewN, VC.mapB_drewN, VC.regQ, VC.loopK, VC.reg, VC.opP, VC.opS, VC.opZ, VC.nomulB, VC.pv, VC.thenF, VC.blkF, VC.retF, VC.resV, VC.oneV, VC.evo, VC.bin, VC.binI, VC.cmpI, VC.arithI, VC.ldv, VC.slv, VC.pickP, VC.holds, VC.chainOf, VC.look, VC.junk, VC.put, VC.eff, VC.callee, VC.pureB, VC.rdK, VC.rdKs, VC.okKs, VC.eqKs, VC.fillL, VC.putL, VC.stW, VC.stOK, VC.mixF, VC.setAll, Nat.reduceAdd, Nat.reduceSub, Nat.reduceMul, if_true, if_false, ↓reduceIte, forall_const, implies_true, reduceCtorEq, ne_eq, Nat.reduceBNe, Nat.reduceBEq, IntKind.signed, Nat.reduceEqDiff, Nat.reduceLeDiff, Nat.reduceLT, eq_self, Int.reduceEq, Int.reduceLT, Int.reduceLE, Int.reduceAdd, Int.reduceSub, VC.regC_nil, VC.regC_cons, VC.regCK_eq, VC.callQ, VC.tailQ, VC.goCall, VC.chStep]
  refine ⟨⟨by omega, by omega⟩, ?_⟩
  have hfit : awayN l l.length * 5 + (l.length - awayN l l.length) * 5 ≤ cur.size := by rw [← Nat.add_mul]; omega
  refine OPW_clear rfl Fa.apI215 (by intro u hu; simp at hu; rcases hu with rfl | rfl <;> rfl) rfl hcur hfit fun w' hg' => ?_
  rw [VC.Now, VC.seqK_eq]
  simp -dsimp (maxSteps := 2000000) only [Fa.F75, VC.Now, VC.vc, VC.lib, VC.mapN_drewN, VC.mapB_drewN, VC.regQ, VC.loopK, VC.reg, VC.opP, VC.opS, VC.opZ, VC.nomulB, VC.pv, VC.thenF, VC.blkF, VC.retF, VC.resV, VC.oneV, VC.evo, VC.bin, VC.binI, VC.cmpI, VC.arithI, VC.ldv, VC.slv, VC.pickP, VC.holds, VC.chainOf, VC.look, VC.junk, VC.put, VC.eff, VC.callee, VC.pureB, VC.rdK, VC.rdKs, VC.okKs, VC.eqKs, VC.fillL, VC.putL, VC.stW, VC.stOK, VC.mixF, VC.setAll, Nat.reduceAdd, Nat.reduceSub, Nat.reduceMul, if_true, if_false, ↓reduceIte, forall_const, implies_true, reduceCtorEq, ne_eq, Nat.reduceBNe, Nat.reduceBEq, IntKind.signed, Nat.reduceEqDiff, Nat.reduceLeDiff, Nat.reduceLT, eq_self, Int.reduceEq, Int.reduceLT, Int.reduceLE, Int.reduceAdd, Int.reduceSub, VC.regC_nil, VC.regC_cons, VC.regCK_eq, VC.callQ, VC.tailQ, VC.goCall, VC.chStep]
  refine ⟨⟨by omega, by omega⟩, ⟨_, c, rfl⟩, (hA.mono fun b _ hb => by rw [hb]; rfl).trans (Agree.grown hg' fun b hb => hb)⟩
set_option maxHeartbeats 1000000 in
theorem cloneMsg_any {B : Nat} (A : Option Addr) (c : Nat) (l : List Note) (w : World) (hw : OwnK w B 226 5 l.length (.slice A l.length c) (l.flatMap noteL)) (hl : l.length ≤ 90000) :
    Calls Try.prog 76 #[.slice A l.length c] w fun e w' => ∃ v, e = .returned v ∧ OwnK w' w.heap.size 226 5 l.length v (l.flatMap noteL) ∧ Below w.heap.size w w' := by
  have hru0 := RdC.own hw
  cases A with
  | none =>
    have h0 : l = [] := by
      refine List.length_eq_zero_iff.1 (Nat.eq_zero_of_not_pos fun h0 => ?_)
      obtain ⟨b, c', hv, _, hb⟩ := hw.form h0
      cases hv
    subst h0
    refine calls_vc (rs := [.tmp 2]) Fa.mix Try.func76 rfl Try.ntmps76 rfl (by kernel_rfl) (Nat.le_of_ble_eq_true rfl) ?_
    simp -dsimp (maxSteps := 2000000) only [Fa.F76, Option.isNone_none, VC.Now, VC.vc, VC.lib, VC.mapN_drewN, VC.mapB_drewN, VC.regQ, VC.loopK, VC.reg, VC.opP, VC.opS, VC.opZ, VC.nomulB, VC.pv, VC.thenF, VC.blkF, VC.retF, VC.resV, VC.oneV, VC.evo, VC.bin, VC.binI, VC.cmpI, VC.arithI, VC.ldv, VC.slv, VC.pickP, VC.holds, VC.chainOf, VC.look, VC.junk, VC.put, VC.eff, VC.callee, VC.pureB, VC.rdK, VC.rdKs, VC.okKs, VC.eqKs, VC.fillL, VC.putL, VC.stW, VC.stOK, VC.mixF, VC.setAll, Nat.reduceAdd, Nat.reduceSub, Nat.reduceMul, if_true, if_false, ↓reduceIte, forall_const, implies_true, reduceCtorEq, ne_eq, Nat.reduceBNe, Nat.reduceBEq, IntKind.signed, Nat.reduceEqDiff, Nat.reduceLeDiff, Nat.reduceLT, eq_self, Int.reduceEq, Int.reduceLT, Int.reduceLE, Int.reduceAdd, Int.reduceSub, VC.regC_nil, VC.regC_cons, VC.regCK_eq, VC.callQ, VC.tailQ, VC.goCall, VC.chStep]
    exact ⟨_, rfl, OwnK.nil _ _ _ _, Below.refl _ _⟩
  | some a0 =>
  refine calls_vc (rs := [.tmp 2]) Fa.mix Try.func76 rfl Try.ntmps76 rfl (by kernel_rfl) (Nat.le_of_ble_eq_true rfl) ?_
  simp -dsimp (maxSteps := 2000000) only [Fa.F76, Option.isNone_some, VC.Now, VC.vc, VC.lib, VC.mapN_drewN, VC.mapB_drewN, VC.regQ, VC.loopK, VC.reg, VC.opP, VC.opS, VC.opZ, VC.nomulB, VC.pv, VC.thenF, VC.blkF, VC.retF, VC.resV, VC.oneV, VC.evo, VC.bin, VC.binI, VC.cmpI, VC.arithI, VC.ldv, VC.slv, VC.pickP, VC.holds, VC.chainOf, VC.look, VC.junk, VC.put, VC.eff, VC.callee, VC.pureB, VC.rdK, VC.rdKs, VC.okKs, VC.eqKs, VC.fillL, VC.putL, VC.stW, VC.stOK, VC.mixF, VC.setAll, Nat.reduceAdd, Nat.reduceSub, Nat.reduceMul, if_true, if_false, ↓reduceIte, forall_const, implies_true, reduceCtorEq, ne_eq, Nat.reduceBNe, Nat.reduceBEq, IntKind.signed, Nat.reduceEqDiff, Nat.reduceLeDiff, Nat.reduceLT, eq_self, Int.reduceEq, Int.reduceLT, Int.reduceLE, Int.reduceAdd, Int.reduceSub, VC.regC_nil, VC.regC_cons, VC.regCK_eq, VC.callQ, VC.tailQ, VC.goCall, VC.chStep]
  have h1 := OwnK.lit (B := w.heap.size) w 226 5 0 [] (Nat.le_refl _) (by decide) rfl
  have hB1 : Below w.heap.size w (w.alloc (.cells #[] 226)) := (Below.refl _ _).alloc (Nat.le_refl _) _
  have hru := hru0.below hB1
  refine OPW_appM (B := w.heap.size) (us := l.flatMap noteL) rfl Fa.apI215 rfl rfl (by rw [flat_length noteL_len]) hru (by
    intro u hu
    obtain ⟨x, _, hx⟩ := List.mem_flatMap.1 hu
    simp at hx; rcases hx with rfl | rfl | rfl | rfl | rfl <;> rfl) h1 hB1.size (by omega) (by decide) fun v' w' ho hg hs => ?_
  rw [VC.Now, VC.seqK_eq]
  simp -dsimp (maxSteps := 2000000) only [Fa.F76, VC.Now, VC.vc, VC.lib, VC.mapN_drewN, VC.mapB_drewN, VC.regQ, VC.loopK, VC.reg, VC.opP, VC.opS, VC.opZ, VC.nomulB, VC.pv, VC.thenF, VC.blkF, VC.retF, VC.resV, VC.oneV, VC.evo, VC.bin, VC.binI, VC.cmpI, VC.arithI, VC.ldv, VC.slv, VC.pickP, VC.holds, VC.chainOf, VC.look, VC.junk, VC.put, VC.eff, VC.callee, VC.pureB, VC.rdK, VC.rdKs, VC.okKs, VC.eqKs, VC.fillL, VC.putL, VC.stW, VC.stOK, VC.mixF, VC.setAll, Nat.reduceAdd, Nat.reduceSub, Nat.reduceMul, if_true, if_false, ↓reduceIte, forall_const, implies_true, reduceCtorEq, ne_eq, Nat.reduceBNe, Nat.reduceBEq, IntKind.signed, Nat.reduceEqDiff, Nat.reduceLeDiff, Nat.reduceLT, eq_self, Int.reduceEq, Int.reduceLT, Int.reduceLE, Int.reduceAdd, Int.reduceSub, VC.regC_nil, VC.regC_cons, VC.regCK_eq, VC.callQ, VC.tailQ, VC.goCall, VC.chStep]
  refine ⟨_, rfl, ?_, hB1.grown hg hB1.size fun k hk => by cases hk; exact Nat.le_refl _⟩
  rw [Nat.zero_add, List.nil_append] at ho
  exact ho
end Go.Proofs.Ytelfmhiaafkimaa
