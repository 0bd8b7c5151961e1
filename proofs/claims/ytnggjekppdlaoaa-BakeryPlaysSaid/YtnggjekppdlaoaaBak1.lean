/- What one process does: begin, look, chosen, wait, yield, leave. -/
import Derived.Test.YtnggjekppdlaoaaBakPlain
import Derived.Test.YtnggjekppdlaoaaHeld
import Derived.Test.YtnggjekppdlaoaaTail
namespace Go.Proofs.Ytnggjekppdlaoaa
open Go Go.RowKit Go.VC
set_option linter.unusedSimpArgs false
set_option linter.unusedVariables false

abbrev prC (p : BP) : List Value := [.int .i64 p.at', .int .i64 p.k, .int .i64 p.m, .int .i64 p.tk, .bool p.ch]
structure Shop (B sb gp n : Nat) (vin : Value) (P : Nat → BP) (inn : List Int) (w : World) : Prop where
  box : Box w sb [.slice (some ⟨gp, 0, none⟩) n n, vin]
  rc : Recs w gp n 5 fun a => prC (P a)
  own : OwnK w B 3 1 inn.length vin (inn.map (Value.int .i64))
  apart : gp ≠ sb
  f1 : vin.ownBlock ≠ some sb
  f2 : vin.ownBlock ≠ some gp
abbrev StepC (g : FuncId) (B sb gp n i : Nat) (vin : Value) (P : Nat → BP) (inn : List Int) (w : World) : Prop :=
  Calls Try.prog g #[.pointer (some ⟨sb, 0, none⟩), .int .i64 i] w fun e w' => e = .returned (.tuple #[]) ∧ ∃ v', Shop B sb gp n v' (upd P i (bnew n i P)) (inn ++ bin' n i P) w' ∧ Stays w vin v' ∧ Agree (fun j => j = sb ∨ j = gp ∨ vin.ownBlock = some j) w w'
section
variable {B sb gp n i : Nat} {vin : Value} {P : Nat → BP} {inn : List Int} {w : World}
/-- One field of a process is set. -/
theorem Shop.set (h : Shop B sb gp n vin P inn w) (hi : i < n) {j : Nat} {v : Value} {p : BP} (hj : j < 5) (hp : prC p = (prC (P i)).set j v) : Shop B sb gp n vin (upd P i p) inn (w.setCell ⟨gp, i * 5 + j, none⟩ v) :=
  ⟨h.box.far h.apart v, h.rc.upd (en := prC) hi hj rfl hp, h.own.setCell h.f2 v, h.apart, h.f1, h.f2⟩
theorem Shop.cell (h : Shop B sb gp n vin P inn w) {a : Nat} (ha : a < n) :
    w.cell? ⟨gp, a * 5, none⟩ = some (.int .i64 (P a).at') ∧ w.cell? ⟨gp, a * 5 + 1, none⟩ = some (.int .i64 (P a).k) ∧ w.cell? ⟨gp, a * 5 + 2, none⟩ = some (.int .i64 (P a).m) ∧ w.cell? ⟨gp, a * 5 + 3, none⟩ = some (.int .i64 (P a).tk) ∧ w.cell? ⟨gp, a * 5 + 4, none⟩ = some (.bool (P a).ch) :=
  ⟨h.rc.at (j := 0) ha (by omega) rfl, h.rc.at ha (by omega) rfl, h.rc.at ha (by omega) rfl, h.rc.at ha (by omega) rfl, h.rc.at ha (by omega) rfl⟩
theorem Shop.soft (h : Shop B sb gp n vin P inn w) {a : Nat} (ha : a < n) : w.frozen? ⟨gp, a * 5, none⟩ = false ∧ w.frozen? ⟨gp, a * 5 + 1, none⟩ = false ∧ w.frozen? ⟨gp, a * 5 + 2, none⟩ = false ∧ w.frozen? ⟨gp, a * 5 + 3, none⟩ = false ∧ w.frozen? ⟨gp, a * 5 + 4, none⟩ = false :=
  ⟨h.rc.soft (j := 0) ha (by omega), h.rc.soft ha (by omega), h.rc.soft ha (by omega), h.rc.soft ha (by omega), h.rc.soft ha (by omega)⟩
theorem agree_gp {w' : World} (h : Agree (fun j => j = sb ∨ j = gp ∨ vin.ownBlock = some j) w w') {o : Nat} {v : Value} : Agree (fun j => j = sb ∨ j = gp ∨ vin.ownBlock = some j) w (w'.setCell ⟨gp, o, none⟩ v) := h.trans (Agree.setCell w' v (Or.inr (Or.inl rfl)))
theorem Shop.start (h : Shop B sb gp n vin P inn w) (i : Nat) : Shop B sb gp n vin (upd P i (P i)) inn w := by rw [upd_self]; exact h
theorem Shop.next {p : BP} (h : Shop B sb gp n vin (upd P i p) inn w) (hi : i < n) {j : Nat} {v : Value} (p' : BP) (hj : j < 5) (hp : prC p' = (prC p).set j v) : Shop B sb gp n vin (upd P i p') inn (w.setCell ⟨gp, i * 5 + j, none⟩ v) := by
  have := h.set hi (p := p') hj (by rw [upd_same]; exact hp)
  rwa [upd_upd] at this
theorem Shop.ok (h : Shop B sb gp n vin P inn w) {a j : Nat} (ha : a < n) (hj : j < 5) : (w.cell? ⟨gp, a * 5 + j, none⟩).isSome = true ∧ w.frozen? ⟨gp, a * 5 + j, none⟩ = false := by
  refine ⟨?_, h.rc.soft ha hj⟩
  rw [(h.rc.2 a ha j hj).1, List.getElem?_eq_getElem (show j < (prC (P a)).length from hj)]; rfl
theorem Shop.drewN (h : Shop B sb gp n vin P inn w) (u : Nat) : Shop B sb gp n vin P inn (w.drewN u) := ⟨h.box, h.rc, h.own, h.apart, h.f1, h.f2⟩
theorem Shop.grew {v' : Value} {w' : World} {x : Int} (h : Shop B sb gp n vin P inn w) (ho : OwnK w' B 3 1 (inn.length + 1) v' (inn.map (Value.int .i64) ++ [.int .i64 x])) (hg : w.grownBy w' vin.ownBlock) (hst : Stays w vin v') :
    (w'.cell? ⟨sb, 1, none⟩).isSome = true ∧ w'.frozen? ⟨sb, 1, none⟩ = false ∧ Shop B sb gp n v' P (inn ++ [x]) (w'.setCell ⟨sb, 1, none⟩ v') := by
  have hag : Agree (fun j => vin.ownBlock = some j) w w' := Agree.grown hg fun j hj => hj
  have hb := h.box.agree hag h.f1
  have hf : ∀ b, b < w.heap.size → vin.ownBlock ≠ some b → v'.ownBlock ≠ some b := fun b hb hv e => by
    rcases hst with e2 | ⟨g, e2, hg⟩
    · exact hv (e2 ▸ e)
    · rw [e2] at e; cases e; omega
  have f1 := hf sb h.box.1 h.f1
  refine ⟨by rw [hb.at (i := 1) rfl]; rfl, hb.soft (by show 1 < 2; omega), hb.set 1 _, (h.rc.agree hag h.f2).far (fun e => h.apart e.symm) _, ?_, h.apart, f1, hf gp h.rc.1 h.f2⟩
  rw [List.map_append, List.length_append]
  exact ho.setCell f1 _
theorem Shop.end (h : Shop B sb gp n vin (upd P i (bnew n i P)) inn w) (he : enters n i P = false) : Shop B sb gp n vin (upd P i (bnew n i P)) (inn ++ bin' n i P) w := by
  unfold bin'; rw [he]; simpa using h
end
theorem noEnter {n i : Nat} {P : Nat → BP} (h : (P i).at' ≠ 3) : enters n i P = false := if_neg h

set_option maxRecDepth 8000 in
set_option maxHeartbeats 2000000 in
theorem begin_any {B sb gp n i : Nat} {vin : Value} {P : Nat → BP} {inn : List Int} {w : World} (h : Shop B sb gp n vin P inn w) (hi : i < n) (h0 : (P i).at' = 0) : StepC 27 B sb gp n i vin P inn w := by
  have b0 := h.box.at (i := 0) rfl
  have hsb := h.box.1
  have hgp := h.rc.1
  obtain ⟨c0, c1, c2, c3, c4⟩ := h.cell hi
  obtain ⟨s0, s1, s2, s3, s4⟩ := h.soft hi
  have h1 := (h.start i).next hi (j := 4) (v := .bool true) ⟨(P i).at', (P i).k, (P i).m, (P i).tk, true⟩ (by omega) rfl
  have h2 := h1.next hi (j := 1) (v := .int .i64 0) ⟨(P i).at', 0, (P i).m, (P i).tk, true⟩ (by omega) rfl
  have h3 := h2.next hi (j := 2) (v := .int .i64 0) ⟨(P i).at', 0, 0, (P i).tk, true⟩ (by omega) rfl
  have h4 := h3.next hi (j := 0) (v := .int .i64 1) ⟨1, 0, 0, (P i).tk, true⟩ (by omega) rfl
  have e : bnew n i P = ⟨1, 0, 0, (P i).tk, true⟩ := by unfold bnew; rw [if_pos h0]
  refine calls_vc (rs := []) Fa.mix Try.func27 rfl Try.ntmps27 rfl (by kernel_rfl) (Nat.le_of_ble_eq_true rfl) ?_
  simp -dsimp only [Fa.F27, rdSA_of b0, rdSN_of b0, rdSC_of b0, b0, Int.toNat_natCast, Nat.zero_add, rdI_of c0, c0, rdI_of c1, c1, rdI_of c2, c2, rdI_of c3, c3, rdB_of c4, c4, s0, s1, s2, s3, s4, VC.Now, VC.vc, VC.lib, VC.regQ, VC.loopK, VC.reg, VC.opP, VC.pv, VC.thenF, VC.blkF, VC.retF, VC.resV, VC.oneV, VC.evo, VC.bin, VC.binI, VC.cmpI, VC.arithI, VC.ldv, VC.slv, VC.pickP, VC.holds, VC.chainOf, VC.look, VC.junk, VC.put, VC.eff, VC.callee, VC.pureB, VC.rdK, VC.rdKs, VC.okKs, VC.eqKs, VC.fillL, VC.putL, VC.stW, VC.stOK, VC.mixF, VC.setAll, Nat.reduceAdd, Nat.reduceSub, Nat.reduceMul, if_true, if_false, ↓reduceIte, forall_const, implies_true, reduceCtorEq, ne_eq, Nat.reduceBNe, Nat.reduceBEq, IntKind.signed, Nat.reduceEqDiff, Nat.reduceLeDiff, Nat.reduceLT, eq_self, Int.reduceEq, Int.reduceLT, Int.reduceLE, Int.reduceAdd, Int.reduceSub, VC.regC_nil, VC.regC_cons, VC.regCK_eq, VC.callQ, VC.tailQ, VC.goCall, VC.chStep]
  exact ⟨⟨by omega, by omega⟩, h1.ok hi (by omega), h2.ok hi (by omega), h3.ok (j := 0) hi (by omega), vin, (e ▸ h4).end (noEnter (by omega)), Or.inl rfl, agree_gp (agree_gp (agree_gp (agree_gp (Agree.refl _ _))))⟩

set_option maxRecDepth 8000 in
set_option maxHeartbeats 2000000 in
theorem chosen_any {B sb gp n i : Nat} {vin : Value} {P : Nat → BP} {inn : List Int} {w : World} (h : Shop B sb gp n vin P inn w) (hi : i < n) (h0 : (P i).at' = 2) : StepC 29 B sb gp n i vin P inn w := by
  have b0 := h.box.at (i := 0) rfl
  have hsb := h.box.1
  have hgp := h.rc.1
  obtain ⟨c0, c1, c2, c3, c4⟩ := h.cell hi
  obtain ⟨s0, s1, s2, s3, s4⟩ := h.soft hi
  have h1 := (h.start i).next hi (j := 4) (v := .bool false) ⟨(P i).at', (P i).k, (P i).m, (P i).tk, false⟩ (by omega) rfl
  have h2 := h1.next hi (j := 1) (v := .int .i64 0) ⟨(P i).at', 0, (P i).m, (P i).tk, false⟩ (by omega) rfl
  have h3 := h2.next hi (j := 0) (v := .int .i64 3) ⟨3, 0, (P i).m, (P i).tk, false⟩ (by omega) rfl
  have e : bnew n i P = ⟨3, 0, (P i).m, (P i).tk, false⟩ := by unfold bnew; rw [if_neg (by omega), if_neg (by omega), if_pos h0]
  refine calls_vc (rs := []) Fa.mix Try.func29 rfl Try.ntmps29 rfl (by kernel_rfl) (Nat.le_of_ble_eq_true rfl) ?_
  simp -dsimp only [Fa.F29, rdSA_of b0, rdSN_of b0, rdSC_of b0, b0, Int.toNat_natCast, Nat.zero_add, rdI_of c0, c0, rdI_of c1, c1, rdI_of c2, c2, rdI_of c3, c3, rdB_of c4, c4, s0, s1, s2, s3, s4, VC.Now, VC.vc, VC.lib, VC.regQ, VC.loopK, VC.reg, VC.opP, VC.pv, VC.thenF, VC.blkF, VC.retF, VC.resV, VC.oneV, VC.evo, VC.bin, VC.binI, VC.cmpI, VC.arithI, VC.ldv, VC.slv, VC.pickP, VC.holds, VC.chainOf, VC.look, VC.junk, VC.put, VC.eff, VC.callee, VC.pureB, VC.rdK, VC.rdKs, VC.okKs, VC.eqKs, VC.fillL, VC.putL, VC.stW, VC.stOK, VC.mixF, VC.setAll, Nat.reduceAdd, Nat.reduceSub, Nat.reduceMul, if_true, if_false, ↓reduceIte, forall_const, implies_true, reduceCtorEq, ne_eq, Nat.reduceBNe, Nat.reduceBEq, IntKind.signed, Nat.reduceEqDiff, Nat.reduceLeDiff, Nat.reduceLT, eq_self, Int.reduceEq, Int.reduceLT, Int.reduceLE, Int.reduceAdd, Int.reduceSub, VC.regC_nil, VC.regC_cons, VC.regCK_eq, VC.callQ, VC.tailQ, VC.goCall, VC.chStep]
  exact ⟨⟨by omega, by omega⟩, h1.ok hi (by omega), h2.ok (j := 0) hi (by omega), vin, (e ▸ h3).end (noEnter (by omega)), Or.inl rfl, agree_gp (agree_gp (agree_gp (Agree.refl _ _)))⟩

set_option maxRecDepth 8000 in
set_option maxHeartbeats 2000000 in
theorem leave_any {B sb gp n i : Nat} {vin : Value} {P : Nat → BP} {inn : List Int} {w : World} (h : Shop B sb gp n vin P inn w) (hi : i < n) (h0 : (P i).at' = 5) : StepC 32 B sb gp n i vin P inn w := by
  have b0 := h.box.at (i := 0) rfl
  have hsb := h.box.1
  have hgp := h.rc.1
  obtain ⟨c0, c1, c2, c3, c4⟩ := h.cell hi
  obtain ⟨s0, s1, s2, s3, s4⟩ := h.soft hi
  have h1 := (h.start i).next hi (j := 3) (v := .int .i64 0) ⟨(P i).at', (P i).k, (P i).m, 0, (P i).ch⟩ (by omega) rfl
  have h2 := h1.next hi (j := 0) (v := .int .i64 0) ⟨0, (P i).k, (P i).m, 0, (P i).ch⟩ (by omega) rfl
  have e : bnew n i P = ⟨0, (P i).k, (P i).m, 0, (P i).ch⟩ := by unfold bnew; rw [if_neg (by omega), if_neg (by omega), if_neg (by omega), if_neg (by omega), if_neg (by omega)]
  refine calls_vc (rs := []) Fa.mix Try.func32 rfl Try.ntmps32 rfl (by kernel_rfl) (Nat.le_of_ble_eq_true rfl) ?_
  simp -dsimp only [Fa.F32, rdSA_of b0, rdSN_of b0, rdSC_of b0, b0, Int.toNat_natCast, Nat.zero_add, rdI_of c0, c0, rdI_of c1, c1, rdI_of c2, c2, rdI_of c3, c3, rdB_of c4, c4, s0, s1, s2, s3, s4, VC.Now, VC.vc, VC.lib, VC.regQ, VC.loopK, VC.reg, VC.opP, VC.pv, VC.thenF, VC.blkF, VC.retF, VC.resV, VC.oneV, VC.evo, VC.bin, VC.binI, VC.cmpI, VC.arithI, VC.ldv, VC.slv, VC.pickP, VC.holds, VC.chainOf, VC.look, VC.junk, VC.put, VC.eff, VC.callee, VC.pureB, VC.rdK, VC.rdKs, VC.okKs, VC.eqKs, VC.fillL, VC.putL, VC.stW, VC.stOK, VC.mixF, VC.setAll, Nat.reduceAdd, Nat.reduceSub, Nat.reduceMul, if_true, if_false, ↓reduceIte, forall_const, implies_true, reduceCtorEq, ne_eq, Nat.reduceBNe, Nat.reduceBEq, IntKind.signed, Nat.reduceEqDiff, Nat.reduceLeDiff, Nat.reduceLT, eq_self, Int.reduceEq, Int.reduceLT, Int.reduceLE, Int.reduceAdd, Int.reduceSub, VC.regC_nil, VC.regC_cons, VC.regCK_eq, VC.callQ, VC.tailQ, VC.goCall, VC.chStep]
  refine WP_held 15 (fun j => j = gp) (.take 0 (.take 1 (.take 2 (.take 3 (.take 4 (.take 5 (.take 6 (.take 7 (.take 8 (.take 9 (.take 10 (.take 11 (.one 12 (.one 13 (.take 14 (.one 15 .done)))))))))))))))) Fa.mix (by kernel_rfl) rfl ?_
  simp -dsimp only [VC.heldF_done, VC.heldF_last, VC.planF_done, VC.planF_take, VC.planF_one, VC.planF_two, VC.planK_eq, VC.heldF_take, VC.heldF_one, VC.heldK_eq, VC.okRd, Fa.F32, rdSA_of b0, rdSN_of b0, rdSC_of b0, b0, Int.toNat_natCast, Nat.zero_add, rdI_of c0, c0, rdI_of c1, c1, rdI_of c2, c2, rdI_of c3, c3, rdB_of c4, c4, s0, s1, s2, s3, s4, VC.Now, VC.vc, VC.lib, VC.regQ, VC.loopK, VC.reg, VC.opP, VC.pv, VC.thenF, VC.blkF, VC.retF, VC.resV, VC.oneV, VC.evo, VC.bin, VC.binI, VC.cmpI, VC.arithI, VC.ldv, VC.slv, VC.pickP, VC.holds, VC.chainOf, VC.look, VC.junk, VC.put, VC.eff, VC.callee, VC.pureB, VC.rdK, VC.rdKs, VC.okKs, VC.eqKs, VC.fillL, VC.putL, VC.stW, VC.stOK, VC.mixF, VC.setAll, Nat.reduceAdd, Nat.reduceSub, Nat.reduceMul, if_true, if_false, ↓reduceIte, forall_const, implies_true, reduceCtorEq, ne_eq, Nat.reduceBNe, Nat.reduceBEq, IntKind.signed, Nat.reduceEqDiff, Nat.reduceLeDiff, Nat.reduceLT, eq_self, Int.reduceEq, Int.reduceLT, Int.reduceLE, Int.reduceAdd, Int.reduceSub, VC.regC_nil, VC.regC_cons, VC.regCK_eq, VC.callQ, VC.tailQ, VC.goCall, VC.chStep]
  have h1' : Shop B sb gp n vin _ inn ((w.drewN 1).setCell ⟨gp, i * 5 + 3, none⟩ (.int .i64 0)) := ((h.drewN 1).start i).next hi (j := 3) (v := .int .i64 0) ⟨(P i).at', (P i).k, (P i).m, 0, (P i).ch⟩ (by omega) rfl
  have h2' := h1'.next hi (j := 0) (v := .int .i64 0) ⟨0, (P i).k, (P i).m, 0, (P i).ch⟩ (by omega) rfl
  have ne : ¬ sb = gp := fun e => h.apart e.symm
  have ad : Agree (fun j => j = gp) w ((w.drewN 1).setCell ⟨gp, i * 5 + 3, none⟩ (.int .i64 0)) := (Agree.of_below (below_drewN (Below.refl _ w) 1)).trans (Agree.setCell _ _ rfl)
  exact ⟨⟨hsb, ne⟩, ⟨hsb, ne⟩, ⟨by omega, by omega⟩, ad, ⟨by omega, by omega⟩, ad, h1'.ok (j := 0) hi (by omega), vin, (e ▸ h2').end (noEnter (by omega)), Or.inl rfl, agree_gp (agree_gp (Agree.of_below (below_drewN (Below.refl _ w) 1)))⟩

set_option maxRecDepth 8000 in
set_option maxHeartbeats 2000000 in
theorem look_any {B sb gp n i t : Nat} {vin : Value} {P : Nat → BP} {inn : List Int} {w : World} (h : Shop B sb gp n vin P inn w) (hi : i < n) (hok : ∀ a, BOK n t (P a)) (ht : t ≤ 1000) (hn : n ≤ 1000) (h0 : (P i).at' = 1) : StepC 28 B sb gp n i vin P inn w := by
  have b0 := h.box.at (i := 0) rfl
  have hsb := h.box.1
  have hgp := h.rc.1
  obtain ⟨c0, c1, c2, c3, c4⟩ := h.cell hi
  obtain ⟨s0, s1, s2, s3, s4⟩ := h.soft hi
  obtain ⟨a1, a2, a3, a4, a5⟩ := hok i
  by_cases hk : (P i).k = n
  · have e1 : ((((P i).k : Nat) : Int) = ((n : Nat) : Int)) = True := eq_true (by omega)
    have e : bnew n i P = ⟨2, (P i).k, (P i).m, (P i).m + 1, (P i).ch⟩ := by unfold bnew; rw [if_neg (by omega), if_pos h0, if_pos hk]
    refine calls_vc (rs := []) Fa.mix Try.func28 rfl Try.ntmps28 rfl (by kernel_rfl) (Nat.le_of_ble_eq_true rfl) ?_
    simp -dsimp only [Fa.F28, rdSA_of b0, rdSN_of b0, rdSC_of b0, b0, Int.toNat_natCast, Nat.zero_add, rdI_of c0, c0, rdI_of c1, c1, rdI_of c2, c2, rdI_of c3, c3, rdB_of c4, c4, s0, s1, s2, s3, s4, e1, VC.Now, VC.vc, VC.lib, VC.regQ, VC.loopK, VC.reg, VC.opP, VC.pv, VC.thenF, VC.blkF, VC.retF, VC.resV, VC.oneV, VC.evo, VC.bin, VC.binI, VC.cmpI, VC.arithI, VC.ldv, VC.slv, VC.pickP, VC.holds, VC.chainOf, VC.look, VC.junk, VC.put, VC.eff, VC.callee, VC.pureB, VC.rdK, VC.rdKs, VC.okKs, VC.eqKs, VC.fillL, VC.putL, VC.stW, VC.stOK, VC.mixF, VC.setAll, Nat.reduceAdd, Nat.reduceSub, Nat.reduceMul, if_true, if_false, ↓reduceIte, forall_const, implies_true, reduceCtorEq, ne_eq, Nat.reduceBNe, Nat.reduceBEq, IntKind.signed, Nat.reduceEqDiff, Nat.reduceLeDiff, Nat.reduceLT, eq_self, Int.reduceEq, Int.reduceLT, Int.reduceLE, Int.reduceAdd, Int.reduceSub, VC.regC_nil, VC.regC_cons, VC.regCK_eq, VC.callQ, VC.tailQ, VC.goCall, VC.chStep]
    refine ⟨⟨by omega, by omega⟩, fun u => ?_⟩
    have h1 := ((h.drewN u).start i).next hi (j := 3) (v := .int .i64 (((P i).m : Int) + 1)) ⟨(P i).at', (P i).k, (P i).m, (P i).m + 1, (P i).ch⟩ (by omega) rfl
    have h2 := h1.next hi (j := 0) (v := .int .i64 2) ⟨2, (P i).k, (P i).m, (P i).m + 1, (P i).ch⟩ (by omega) rfl
    exact ⟨fits_i64 (by omega) (by omega), h1.ok (j := 0) hi (by omega), vin, (e ▸ h2).end (noEnter (by omega)), Or.inl rfl, agree_gp (agree_gp (Agree.of_below (below_drewN (Below.refl _ w) u)))⟩
  · have e1 : ((((P i).k : Nat) : Int) = ((n : Nat) : Int)) = False := eq_false (by omega)
    have hkn : (P i).k < n := by omega
    obtain ⟨d0, d1, d2, d3, d4⟩ := h.cell hkn
    generalize hM : (if (P i).m < (P (P i).k).tk then (P (P i).k).tk else (P i).m) = M
    have e : bnew n i P = ⟨1, (P i).k + 1, M, (P i).tk, (P i).ch⟩ := by unfold bnew; rw [if_neg (by omega), if_pos h0, if_neg hk, hM]
    have hMI : (if ((P i).m : Int) < ((P (P i).k).tk : Int) then ((P (P i).k).tk : Int) else ((P i).m : Int)) = (M : Int) := by rw [← hM]; split <;> split <;> omega
    have ht1 : Shop B sb gp n vin (upd P i ⟨(P i).at', (P i).k, M, (P i).tk, (P i).ch⟩) inn ((w.drewN 1).setCell ⟨gp, i * 5 + 2, none⟩ (.int .i64 (M : Int))) := ((h.drewN 1).start i).next hi _ (by omega) rfl
    refine calls_vc (rs := []) Fa.mix Try.func28 rfl Try.ntmps28 rfl (by kernel_rfl) (Nat.le_of_ble_eq_true rfl) ?_
    simp -dsimp only [Fa.F28, rdSA_of b0, rdSN_of b0, rdSC_of b0, b0, Int.toNat_natCast, Nat.zero_add, rdI_of c0, c0, rdI_of c1, c1, rdI_of c2, c2, rdI_of c3, c3, rdB_of c4, c4, s0, s1, s2, s3, s4, e1, VC.Now, VC.vc, VC.lib, VC.regQ, VC.loopK, VC.reg, VC.opP, VC.pv, VC.thenF, VC.blkF, VC.retF, VC.resV, VC.oneV, VC.evo, VC.bin, VC.binI, VC.cmpI, VC.arithI, VC.ldv, VC.slv, VC.pickP, VC.holds, VC.chainOf, VC.look, VC.junk, VC.put, VC.eff, VC.callee, VC.pureB, VC.rdK, VC.rdKs, VC.okKs, VC.eqKs, VC.fillL, VC.putL, VC.stW, VC.stOK, VC.mixF, VC.setAll, Nat.reduceAdd, Nat.reduceSub, Nat.reduceMul, if_true, if_false, ↓reduceIte, forall_const, implies_true, reduceCtorEq, ne_eq, Nat.reduceBNe, Nat.reduceBEq, IntKind.signed, Nat.reduceEqDiff, Nat.reduceLeDiff, Nat.reduceLT, eq_self, Int.reduceEq, Int.reduceLT, Int.reduceLE, Int.reduceAdd, Int.reduceSub, VC.regC_nil, VC.regC_cons, VC.regCK_eq, VC.callQ, VC.tailQ, VC.goCall, VC.chStep]
    refine ⟨⟨by omega, by omega⟩, fun u => ?_⟩
    have h1 : Shop B sb gp n vin (upd P i ⟨(P i).at', (P i).k, M, (P i).tk, (P i).ch⟩) inn ((w.drewN (u + 1)).setCell ⟨gp, i * 5 + 2, none⟩ (.int .i64 (M : Int))) := ((h.drewN (u + 1)).start i).next hi _ (by omega) rfl
    have h2 := h1.next hi (j := 1) (v := .int .i64 (((P i).k : Int) + 1)) ⟨(P i).at', (P i).k + 1, M, (P i).tk, (P i).ch⟩ (by omega) rfl
    have q1 := (h1.cell hi).2.1
    rw [upd_same] at q1
    refine WP_held 19 (fun _ => False) (.take 0 (.take 1 (.take 2 (.take 3 (.take 4 (.take 5 (.take 6 (.take 7 (.take 8 (.take 9 (.take 10 (.take 11 (.take 12 (.take 13 (.take 14 (.take 15 (.one 16 (.one 17 (.take 18 (.one 19 .done)))))))))))))))))))) Fa.mix (by kernel_rfl) rfl ?_
    simp -dsimp only [VC.heldF_done, VC.heldF_last, VC.planF_done, VC.planF_take, VC.planF_one, VC.planF_two, VC.planK_eq, VC.heldF_take, VC.heldF_one, VC.heldK_eq, VC.okRd, Fa.F28, rdSA_of b0, rdSN_of b0, rdSC_of b0, b0, Int.toNat_natCast, Nat.zero_add, rdI_of c0, c0, rdI_of c1, c1, rdI_of c2, c2, rdI_of c3, c3, rdB_of c4, c4, s0, s1, s2, s3, s4, rdI_of d0, d0, rdI_of d1, d1, rdI_of d2, d2, rdI_of d3, d3, rdB_of d4, d4, e1, hMI, rdI_of q1, q1, VC.Now, VC.vc, VC.lib, VC.regQ, VC.loopK, VC.reg, VC.opP, VC.pv, VC.thenF, VC.blkF, VC.retF, VC.resV, VC.oneV, VC.evo, VC.bin, VC.binI, VC.cmpI, VC.arithI, VC.ldv, VC.slv, VC.pickP, VC.holds, VC.chainOf, VC.look, VC.junk, VC.put, VC.eff, VC.callee, VC.pureB, VC.rdK, VC.rdKs, VC.okKs, VC.eqKs, VC.fillL, VC.putL, VC.stW, VC.stOK, VC.mixF, VC.setAll, Nat.reduceAdd, Nat.reduceSub, Nat.reduceMul, if_true, if_false, ↓reduceIte, forall_const, implies_true, reduceCtorEq, ne_eq, Nat.reduceBNe, Nat.reduceBEq, IntKind.signed, Nat.reduceEqDiff, Nat.reduceLeDiff, Nat.reduceLT, eq_self, Int.reduceEq, Int.reduceLT, Int.reduceLE, Int.reduceAdd, Int.reduceSub, VC.regC_nil, VC.regC_cons, VC.regCK_eq, VC.callQ, VC.tailQ, VC.goCall, VC.chStep]
    have ag : Agree (fun _ => False) (w.drewN u) (w.drewN (u + 1)) := Agree.of_below (below_drewN (Below.refl _ (w.drewN u)) 1)
    refine ⟨hgp, hsb, hgp, ⟨by omega, by omega⟩, hgp, ag, ag, fits_i64 (by omega) (by omega), (h1.ok (j := 1) hi (by omega)).2, vin, Shop.end ?_ (noEnter (by omega)), Or.inl rfl, agree_gp (agree_gp (Agree.of_below (below_drewN (Below.refl _ w) (u + 1))))⟩
    rw [e]
    rw [h0] at h2
    exact h2

set_option maxRecDepth 8000 in
set_option maxHeartbeats 2000000 in
theorem wait_any {B sb gp n i t : Nat} {vin : Value} {P : Nat → BP} {inn : List Int} {w : World} (h : Shop B sb gp n vin P inn w) (hB : B ≤ w.heap.size) (hl : inn.length ≤ 1000) (hi : i < n) (hok : ∀ a, BOK n t (P a)) (ht : t ≤ 1000) (hn : n ≤ 1000) (h0 : (P i).at' = 3) : StepC 30 B sb gp n i vin P inn w := by
  have b0 := h.box.at (i := 0) rfl
  have b1 := h.box.at (i := 1) rfl
  have hsb := h.box.1
  have hgp := h.rc.1
  obtain ⟨c0, c1, c2, c3, c4⟩ := h.cell hi
  obtain ⟨s0, s1, s2, s3, s4⟩ := h.soft hi
  obtain ⟨a1, a2, a3, a4, a5⟩ := hok i
  by_cases hk : (P i).k = n
  · have e1 : ((((P i).k : Nat) : Int) = ((n : Nat) : Int)) = True := eq_true (by omega)
    have e : bnew n i P = ⟨5, (P i).k, (P i).m, (P i).tk, (P i).ch⟩ := by unfold bnew; rw [if_neg (by omega), if_neg (by omega), if_neg (by omega), if_pos h0, if_pos hk]
    have ee : bin' n i P = [(i : Int)] := by unfold bin' enters; rw [if_pos h0, if_pos (decide_eq_true hk)]
    obtain ⟨A, c, rfl, hown⟩ := id h.own
    have h1 : ∀ m, Shop B sb gp n (.slice A inn.length c) (upd P i ⟨5, (P i).k, (P i).m, (P i).tk, (P i).ch⟩) inn ((w.drewN m).setCell ⟨gp, i * 5, none⟩ (.int .i64 5)) := fun m => ((h.drewN m).start i).next hi (j := 0) _ (by omega) rfl
    have q1 : ∀ m, ((w.drewN m).setCell ⟨gp, i * 5, none⟩ (.int .i64 5)).cell? ⟨sb, 1, none⟩ = some (.slice A inn.length c) := fun m => (h1 m).box.at (i := 1) rfl
    have q2 := fun m => rdSA_of (q1 m)
    have q3 := fun m => rdSN_of (q1 m)
    have q4 := fun m => rdSC_of (q1 m)
    refine calls_vc (rs := []) Fa.mix Try.func30 rfl Try.ntmps30 rfl (by kernel_rfl) (Nat.le_of_ble_eq_true rfl) ?_
    simp -dsimp only [Fa.F30, rdSA_of b0, rdSN_of b0, rdSC_of b0, b0, Int.toNat_natCast, Nat.zero_add, rdI_of c0, c0, rdI_of c1, c1, rdI_of c2, c2, rdI_of c3, c3, rdB_of c4, c4, s0, s1, s2, s3, s4, e1, q2, q3, q4, q1, VC.Now, VC.vc, VC.lib, VC.regQ, VC.loopK, VC.reg, VC.opP, VC.pv, VC.thenF, VC.blkF, VC.retF, VC.resV, VC.oneV, VC.evo, VC.bin, VC.binI, VC.cmpI, VC.arithI, VC.ldv, VC.slv, VC.pickP, VC.holds, VC.chainOf, VC.look, VC.junk, VC.put, VC.eff, VC.callee, VC.pureB, VC.rdK, VC.rdKs, VC.okKs, VC.eqKs, VC.fillL, VC.putL, VC.stW, VC.stOK, VC.mixF, VC.setAll, Nat.reduceAdd, Nat.reduceSub, Nat.reduceMul, if_true, if_false, ↓reduceIte, forall_const, implies_true, reduceCtorEq, ne_eq, Nat.reduceBNe, Nat.reduceBEq, IntKind.signed, Nat.reduceEqDiff, Nat.reduceLeDiff, Nat.reduceLT, eq_self, Int.reduceEq, Int.reduceLT, Int.reduceLE, Int.reduceAdd, Int.reduceSub, VC.regC_nil, VC.regC_cons, VC.regCK_eq, VC.callQ, VC.tailQ, VC.goCall, VC.chStep]
    refine ⟨⟨by omega, by omega⟩, fun m => ?_⟩
    refine OPW_appK rfl Fa.apI22 rfl rfl rfl (by simp [Value.oneCell']) (h1 m).own (by simpa using hB) (by omega) (by decide) fun v' w' hown' hg hst => ?_
    obtain ⟨A', c', rfl, _⟩ := id hown'
    simp -dsimp only [Fa.F30, rdSA_of b0, rdSN_of b0, rdSC_of b0, b0, Int.toNat_natCast, Nat.zero_add, rdI_of c0, c0, rdI_of c1, c1, rdI_of c2, c2, rdI_of c3, c3, rdB_of c4, c4, s0, s1, s2, s3, s4, e1, q2, q3, q4, q1, VC.Now, VC.vc, VC.lib, VC.regQ, VC.loopK, VC.reg, VC.opP, VC.pv, VC.thenF, VC.blkF, VC.retF, VC.resV, VC.oneV, VC.evo, VC.bin, VC.binI, VC.cmpI, VC.arithI, VC.ldv, VC.slv, VC.pickP, VC.holds, VC.chainOf, VC.look, VC.junk, VC.put, VC.eff, VC.callee, VC.pureB, VC.rdK, VC.rdKs, VC.okKs, VC.eqKs, VC.fillL, VC.putL, VC.stW, VC.stOK, VC.mixF, VC.setAll, Nat.reduceAdd, Nat.reduceSub, Nat.reduceMul, if_true, if_false, ↓reduceIte, forall_const, implies_true, reduceCtorEq, ne_eq, Nat.reduceBNe, Nat.reduceBEq, IntKind.signed, Nat.reduceEqDiff, Nat.reduceLeDiff, Nat.reduceLT, eq_self, Int.reduceEq, Int.reduceLT, Int.reduceLE, Int.reduceAdd, Int.reduceSub, VC.regC_nil, VC.regC_cons, VC.regCK_eq, VC.callQ, VC.tailQ, VC.goCall, VC.chStep]
    obtain ⟨r1, r2, r3⟩ := (h1 m).grew hown' hg hst
    rw [← e, ← ee] at r3
    refine ⟨⟨r1, r2⟩, _, r3, hst.imp id fun ⟨g, x1, x2⟩ => ⟨g, x1, by simpa using x2⟩, ?_⟩
    exact (((Agree.of_below (below_drewN (Below.refl _ w) m)).trans (Agree.setCell _ _ (Or.inr (Or.inl rfl)))).trans (Agree.grown hg fun j hj => Or.inr (Or.inr hj))).trans (Agree.setCell _ _ (Or.inl rfl))
  · have e1 : ((((P i).k : Nat) : Int) = ((n : Nat) : Int)) = False := eq_false (by omega)
    have hkn : (P i).k < n := by omega
    obtain ⟨d0, d1, d2, d3, d4⟩ := h.cell hkn
    cases hch : (P (P i).k).ch with
    | false =>
      have e : bnew n i P = ⟨4, (P i).k, (P i).m, (P i).tk, (P i).ch⟩ := by unfold bnew; rw [if_neg (by omega), if_neg (by omega), if_neg (by omega), if_pos h0, if_neg hk, if_pos hch]
      rw [hch] at d4
      refine calls_vc (rs := []) Fa.mix Try.func30 rfl Try.ntmps30 rfl (by kernel_rfl) (Nat.le_of_ble_eq_true rfl) ?_
      simp -dsimp only [Fa.F30, rdSA_of b0, rdSN_of b0, rdSC_of b0, b0, Int.toNat_natCast, Nat.zero_add, rdI_of c0, c0, rdI_of c1, c1, rdI_of c2, c2, rdI_of c3, c3, rdB_of c4, c4, s0, s1, s2, s3, s4, rdI_of d0, d0, rdI_of d1, d1, rdI_of d2, d2, rdI_of d3, d3, rdB_of d4, d4, e1, VC.Now, VC.vc, VC.lib, VC.regQ, VC.loopK, VC.reg, VC.opP, VC.pv, VC.thenF, VC.blkF, VC.retF, VC.resV, VC.oneV, VC.evo, VC.bin, VC.binI, VC.cmpI, VC.arithI, VC.ldv, VC.slv, VC.pickP, VC.holds, VC.chainOf, VC.look, VC.junk, VC.put, VC.eff, VC.callee, VC.pureB, VC.rdK, VC.rdKs, VC.okKs, VC.eqKs, VC.fillL, VC.putL, VC.stW, VC.stOK, VC.mixF, VC.setAll, Nat.reduceAdd, Nat.reduceSub, Nat.reduceMul, if_true, if_false, ↓reduceIte, forall_const, implies_true, reduceCtorEq, ne_eq, Nat.reduceBNe, Nat.reduceBEq, IntKind.signed, Nat.reduceEqDiff, Nat.reduceLeDiff, Nat.reduceLT, eq_self, Int.reduceEq, Int.reduceLT, Int.reduceLE, Int.reduceAdd, Int.reduceSub, VC.regC_nil, VC.regC_cons, VC.regCK_eq, VC.callQ, VC.tailQ, VC.goCall, VC.chStep]
      refine ⟨⟨by omega, by omega⟩, fun m => ⟨⟨by omega, by omega⟩, fun u => ⟨vin, Shop.end ?_ (by unfold enters; rw [if_pos h0, decide_eq_false hk]), Or.inl rfl, agree_gp (Agree.of_below (below_drewN (Below.refl _ w) _))⟩⟩⟩
      rw [e]
      exact ((h.drewN (m + u)).start i).next hi (j := 0) _ (by omega) rfl
    | true =>
      have e : bnew n i P = P i := by unfold bnew; rw [if_neg (by omega), if_neg (by omega), if_neg (by omega), if_pos h0, if_neg hk, if_neg (by rw [hch]; simp)]
      rw [hch] at d4
      refine calls_vc (rs := []) Fa.mix Try.func30 rfl Try.ntmps30 rfl (by kernel_rfl) (Nat.le_of_ble_eq_true rfl) ?_
      simp -dsimp only [Fa.F30, rdSA_of b0, rdSN_of b0, rdSC_of b0, b0, Int.toNat_natCast, Nat.zero_add, rdI_of c0, c0, rdI_of c1, c1, rdI_of c2, c2, rdI_of c3, c3, rdB_of c4, c4, s0, s1, s2, s3, s4, rdI_of d0, d0, rdI_of d1, d1, rdI_of d2, d2, rdI_of d3, d3, rdB_of d4, d4, e1, VC.Now, VC.vc, VC.lib, VC.regQ, VC.loopK, VC.reg, VC.opP, VC.pv, VC.thenF, VC.blkF, VC.retF, VC.resV, VC.oneV, VC.evo, VC.bin, VC.binI, VC.cmpI, VC.arithI, VC.ldv, VC.slv, VC.pickP, VC.holds, VC.chainOf, VC.look, VC.junk, VC.put, VC.eff, VC.callee, VC.pureB, VC.rdK, VC.rdKs, VC.okKs, VC.eqKs, VC.fillL, VC.putL, VC.stW, VC.stOK, VC.mixF, VC.setAll, Nat.reduceAdd, Nat.reduceSub, Nat.reduceMul, if_true, if_false, ↓reduceIte, forall_const, implies_true, reduceCtorEq, ne_eq, Nat.reduceBNe, Nat.reduceBEq, IntKind.signed, Nat.reduceEqDiff, Nat.reduceLeDiff, Nat.reduceLT, eq_self, Int.reduceEq, Int.reduceLT, Int.reduceLE, Int.reduceAdd, Int.reduceSub, VC.regC_nil, VC.regC_cons, VC.regCK_eq, VC.callQ, VC.tailQ, VC.goCall, VC.chStep]
      refine ⟨⟨by omega, by omega⟩, fun m => ⟨⟨by omega, by omega⟩, fun u => ⟨vin, Shop.end ?_ (by unfold enters; rw [if_pos h0, decide_eq_false hk]), Or.inl rfl, Agree.of_below (below_drewN (Below.refl _ w) _)⟩⟩⟩
      rw [e]
      exact (h.drewN (m + u)).start i

set_option maxRecDepth 8000 in
set_option maxHeartbeats 2000000 in
theorem yield_any {B sb gp n i t : Nat} {vin : Value} {P : Nat → BP} {inn : List Int} {w : World} (h : Shop B sb gp n vin P inn w) (hB : B ≤ w.heap.size) (hi : i < n) (hok : ∀ a, BOK n t (P a)) (ht : t ≤ 1000) (hn : n ≤ 1000) (h0 : (P i).at' = 4) : StepC 31 B sb gp n i vin P inn w := by
  have b0 := h.box.at (i := 0) rfl
  have hsb := h.box.1
  have hgp := h.rc.1
  obtain ⟨c0, c1, c2, c3, c4⟩ := h.cell hi
  obtain ⟨s0, s1, s2, s3, s4⟩ := h.soft hi
  obtain ⟨a1, a2, a3, a4, a5⟩ := hok i
  have hkn : (P i).k < n := a3 h0
  obtain ⟨d0, d1, d2, d3, d4⟩ := h.cell hkn
  by_cases hz : (P (P i).k).tk = 0
  · have e1 : ((((P (P i).k).tk : Nat) : Int) = 0) = True := eq_true (by omega)
    have hy : yields P i = false := by unfold yields; rw [if_pos hz]
    have e : bnew n i P = ⟨3, (P i).k + 1, (P i).m, (P i).tk, (P i).ch⟩ := by unfold bnew; rw [if_neg (by omega), if_neg (by omega), if_neg (by omega), if_neg (by omega), if_pos h0, if_neg (by rw [hy]; simp)]
    refine calls_vc (rs := []) Fa.mix Try.func31 rfl Try.ntmps31 rfl (by kernel_rfl) (Nat.le_of_ble_eq_true rfl) ?_
    simp -dsimp only [Fa.F31, rdSA_of b0, rdSN_of b0, rdSC_of b0, b0, Int.toNat_natCast, Nat.zero_add, rdI_of c0, c0, rdI_of c1, c1, rdI_of c2, c2, rdI_of c3, c3, rdB_of c4, c4, s0, s1, s2, s3, s4, rdI_of d0, d0, rdI_of d1, d1, rdI_of d2, d2, rdI_of d3, d3, rdB_of d4, d4, e1, VC.Now, VC.vc, VC.lib, VC.regQ, VC.loopK, VC.reg, VC.opP, VC.pv, VC.thenF, VC.blkF, VC.retF, VC.resV, VC.oneV, VC.evo, VC.bin, VC.binI, VC.cmpI, VC.arithI, VC.ldv, VC.slv, VC.pickP, VC.holds, VC.chainOf, VC.look, VC.junk, VC.put, VC.eff, VC.callee, VC.pureB, VC.rdK, VC.rdKs, VC.okKs, VC.eqKs, VC.fillL, VC.putL, VC.stW, VC.stOK, VC.mixF, VC.setAll, Nat.reduceAdd, Nat.reduceSub, Nat.reduceMul, if_true, if_false, ↓reduceIte, forall_const, implies_true, reduceCtorEq, ne_eq, Nat.reduceBNe, Nat.reduceBEq, IntKind.signed, Nat.reduceEqDiff, Nat.reduceLeDiff, Nat.reduceLT, eq_self, Int.reduceEq, Int.reduceLT, Int.reduceLE, Int.reduceAdd, Int.reduceSub, VC.regC_nil, VC.regC_cons, VC.regCK_eq, VC.callQ, VC.tailQ, VC.goCall, VC.chStep]
    refine ⟨⟨by omega, by omega⟩, ⟨by omega, by omega⟩, fun u => ?_⟩
    refine WP_tailG 15 Fa.mix (by kernel_rfl) (by kernel_rfl) (by kernel_rfl) rfl ?_
    simp -dsimp only [Fa.F31, rdSA_of b0, rdSN_of b0, rdSC_of b0, b0, Int.toNat_natCast, Nat.zero_add, rdI_of c0, c0, rdI_of c1, c1, rdI_of c2, c2, rdI_of c3, c3, rdB_of c4, c4, s0, s1, s2, s3, s4, rdI_of d0, d0, rdI_of d1, d1, rdI_of d2, d2, rdI_of d3, d3, rdB_of d4, d4, e1, VC.Now, VC.vc_skip, VC.vc_ret, VC.vc_exit, VC.vc_block, VC.vc_cond, VC.vc_region, VC.lib, VC.regQ, VC.loopK, VC.reg, VC.opP, VC.pv, VC.thenF, VC.blkF, VC.retF, VC.resV, VC.oneV, VC.evo, VC.bin, VC.binI, VC.cmpI, VC.arithI, VC.ldv, VC.slv, VC.pickP, VC.holds, VC.chainOf, VC.look, VC.junk, VC.put, VC.eff, VC.callee, VC.pureB, VC.rdK, VC.rdKs, VC.okKs, VC.eqKs, VC.fillL, VC.putL, VC.stW, VC.stOK, VC.mixF, VC.setAll, Nat.reduceAdd, Nat.reduceSub, Nat.reduceMul, if_true, if_false, ↓reduceIte, forall_const, implies_true, reduceCtorEq, ne_eq, Nat.reduceBNe, Nat.reduceBEq, IntKind.signed, Nat.reduceEqDiff, Nat.reduceLeDiff, Nat.reduceLT, eq_self, Int.reduceEq, Int.reduceLT, Int.reduceLE, Int.reduceAdd, Int.reduceSub, VC.regC_nil, VC.regC_cons, VC.regCK_eq, VC.callQ, VC.tailQ, VC.goCall, VC.chStep]
    refine CALLQ_of (v := undef) (fun h => h.elim) ?_
    simp -dsimp only [Fa.F31, rdSA_of b0, rdSN_of b0, rdSC_of b0, b0, Int.toNat_natCast, Nat.zero_add, rdI_of c0, c0, rdI_of c1, c1, rdI_of c2, c2, rdI_of c3, c3, rdB_of c4, c4, s0, s1, s2, s3, s4, rdI_of d0, d0, rdI_of d1, d1, rdI_of d2, d2, rdI_of d3, d3, rdB_of d4, d4, e1, VC.Now, VC.vc_skip, VC.vc_ret, VC.vc_exit, VC.vc_block, VC.vc_cond, VC.vc_region, VC.lib, VC.regQ, VC.loopK, VC.reg, VC.opP, VC.pv, VC.thenF, VC.blkF, VC.retF, VC.resV, VC.oneV, VC.evo, VC.bin, VC.binI, VC.cmpI, VC.arithI, VC.ldv, VC.slv, VC.pickP, VC.holds, VC.chainOf, VC.look, VC.junk, VC.put, VC.eff, VC.callee, VC.pureB, VC.rdK, VC.rdKs, VC.okKs, VC.eqKs, VC.fillL, VC.putL, VC.stW, VC.stOK, VC.mixF, VC.setAll, Nat.reduceAdd, Nat.reduceSub, Nat.reduceMul, if_true, if_false, ↓reduceIte, forall_const, implies_true, reduceCtorEq, ne_eq, Nat.reduceBNe, Nat.reduceBEq, IntKind.signed, Nat.reduceEqDiff, Nat.reduceLeDiff, Nat.reduceLT, eq_self, Int.reduceEq, Int.reduceLT, Int.reduceLE, Int.reduceAdd, Int.reduceSub, VC.regC_nil, VC.regC_cons, VC.regCK_eq, VC.callQ, VC.tailQ, VC.goCall, VC.chStep]
    refine CALLQ_of (v := undef) (fun h => h.elim) ?_
    simp -dsimp only [Fa.F31, rdSA_of b0, rdSN_of b0, rdSC_of b0, b0, Int.toNat_natCast, Nat.zero_add, rdI_of c0, c0, rdI_of c1, c1, rdI_of c2, c2, rdI_of c3, c3, rdB_of c4, c4, s0, s1, s2, s3, s4, rdI_of d0, d0, rdI_of d1, d1, rdI_of d2, d2, rdI_of d3, d3, rdB_of d4, d4, e1, VC.Now, VC.vc_skip, VC.vc_ret, VC.vc_exit, VC.vc_block, VC.vc_cond, VC.vc_region, VC.lib, VC.regQ, VC.loopK, VC.reg, VC.opP, VC.pv, VC.thenF, VC.blkF, VC.retF, VC.resV, VC.oneV, VC.evo, VC.bin, VC.binI, VC.cmpI, VC.arithI, VC.ldv, VC.slv, VC.pickP, VC.holds, VC.chainOf, VC.look, VC.junk, VC.put, VC.eff, VC.callee, VC.pureB, VC.rdK, VC.rdKs, VC.okKs, VC.eqKs, VC.fillL, VC.putL, VC.stW, VC.stOK, VC.mixF, VC.setAll, Nat.reduceAdd, Nat.reduceSub, Nat.reduceMul, if_true, if_false, ↓reduceIte, forall_const, implies_true, reduceCtorEq, ne_eq, Nat.reduceBNe, Nat.reduceBEq, IntKind.signed, Nat.reduceEqDiff, Nat.reduceLeDiff, Nat.reduceLT, eq_self, Int.reduceEq, Int.reduceLT, Int.reduceLE, Int.reduceAdd, Int.reduceSub, VC.regC_nil, VC.regC_cons, VC.regCK_eq, VC.callQ, VC.tailQ, VC.goCall, VC.chStep]
    rw [tailG_eq]
    intro _ w' hB' _
    have hd : Below w.heap.size w w' := (below_drewN (Below.refl _ w) u).trans hB'
    have hq : Shop B sb gp n vin P inn w' := ⟨h.box.below hd, h.rc.below hd, h.own.below hd, h.apart, h.f1, h.f2⟩
    have h1 : Shop B sb gp n vin _ inn (w'.setCell ⟨gp, i * 5 + 1, none⟩ (.int .i64 (((P i).k : Int) + 1))) := (hq.start i).next hi ⟨(P i).at', (P i).k + 1, (P i).m, (P i).tk, (P i).ch⟩ (by omega) rfl
    have h2 := h1.next hi (j := 0) (v := .int .i64 3) ⟨3, (P i).k + 1, (P i).m, (P i).tk, (P i).ch⟩ (by omega) rfl
    have q1 := (hq.cell hi).2.1
    have q2 := (hq.soft hi).2.1
    simp -dsimp only [Fa.F31, rdI_of q1, q1, q2, VC.Now, VC.vc, VC.lib, VC.regQ, VC.loopK, VC.reg, VC.opP, VC.pv, VC.thenF, VC.blkF, VC.retF, VC.resV, VC.oneV, VC.evo, VC.bin, VC.binI, VC.cmpI, VC.arithI, VC.ldv, VC.slv, VC.pickP, VC.holds, VC.chainOf, VC.look, VC.junk, VC.put, VC.eff, VC.callee, VC.pureB, VC.rdK, VC.rdKs, VC.okKs, VC.eqKs, VC.fillL, VC.putL, VC.stW, VC.stOK, VC.mixF, VC.setAll, Nat.reduceAdd, Nat.reduceSub, Nat.reduceMul, if_true, if_false, ↓reduceIte, forall_const, implies_true, reduceCtorEq, ne_eq, Nat.reduceBNe, Nat.reduceBEq, IntKind.signed, Nat.reduceEqDiff, Nat.reduceLeDiff, Nat.reduceLT, eq_self, Int.reduceEq, Int.reduceLT, Int.reduceLE, Int.reduceAdd, Int.reduceSub, VC.regC_nil, VC.regC_cons, VC.regCK_eq, VC.callQ, VC.tailQ, VC.goCall, VC.chStep]
    exact ⟨fits_i64 (by omega) (by omega), h1.ok (j := 0) hi (by omega), vin, (e ▸ h2).end (noEnter (by omega)), Or.inl rfl, agree_gp (agree_gp (Agree.of_below hd))⟩
  · have e1 : ((((P (P i).k).tk : Nat) : Int) = 0) = False := eq_false (by omega)
    refine calls_vc (rs := []) Fa.mix Try.func31 rfl Try.ntmps31 rfl (by kernel_rfl) (Nat.le_of_ble_eq_true rfl) ?_
    simp -dsimp only [Fa.F31, rdSA_of b0, rdSN_of b0, rdSC_of b0, b0, Int.toNat_natCast, Nat.zero_add, rdI_of c0, c0, rdI_of c1, c1, rdI_of c2, c2, rdI_of c3, c3, rdB_of c4, c4, s0, s1, s2, s3, s4, rdI_of d0, d0, rdI_of d1, d1, rdI_of d2, d2, rdI_of d3, d3, rdB_of d4, d4, e1, VC.Now, VC.vc, VC.lib, VC.regQ, VC.loopK, VC.reg, VC.opP, VC.pv, VC.thenF, VC.blkF, VC.retF, VC.resV, VC.oneV, VC.evo, VC.bin, VC.binI, VC.cmpI, VC.arithI, VC.ldv, VC.slv, VC.pickP, VC.holds, VC.chainOf, VC.look, VC.junk, VC.put, VC.eff, VC.callee, VC.pureB, VC.rdK, VC.rdKs, VC.okKs, VC.eqKs, VC.fillL, VC.putL, VC.stW, VC.stOK, VC.mixF, VC.setAll, Nat.reduceAdd, Nat.reduceSub, Nat.reduceMul, if_true, if_false, ↓reduceIte, forall_const, implies_true, reduceCtorEq, ne_eq, Nat.reduceBNe, Nat.reduceBEq, IntKind.signed, Nat.reduceEqDiff, Nat.reduceLeDiff, Nat.reduceLT, eq_self, Int.reduceEq, Int.reduceLT, Int.reduceLE, Int.reduceAdd, Int.reduceSub, VC.regC_nil, VC.regC_cons, VC.regCK_eq, VC.callQ, VC.tailQ, VC.goCall, VC.chStep]
    refine ⟨⟨by omega, by omega⟩, ⟨by omega, by omega⟩, fun u => ?_⟩
    refine WP_tailG 15 Fa.mix (by kernel_rfl) (by kernel_rfl) (by kernel_rfl) rfl ?_
    simp -dsimp only [Fa.F31, rdSA_of b0, rdSN_of b0, rdSC_of b0, b0, Int.toNat_natCast, Nat.zero_add, rdI_of c0, c0, rdI_of c1, c1, rdI_of c2, c2, rdI_of c3, c3, rdB_of c4, c4, s0, s1, s2, s3, s4, rdI_of d0, d0, rdI_of d1, d1, rdI_of d2, d2, rdI_of d3, d3, rdB_of d4, d4, e1, VC.Now, VC.vc_skip, VC.vc_ret, VC.vc_exit, VC.vc_block, VC.vc_cond, VC.vc_region, VC.lib, VC.regQ, VC.loopK, VC.reg, VC.opP, VC.pv, VC.thenF, VC.blkF, VC.retF, VC.resV, VC.oneV, VC.evo, VC.bin, VC.binI, VC.cmpI, VC.arithI, VC.ldv, VC.slv, VC.pickP, VC.holds, VC.chainOf, VC.look, VC.junk, VC.put, VC.eff, VC.callee, VC.pureB, VC.rdK, VC.rdKs, VC.okKs, VC.eqKs, VC.fillL, VC.putL, VC.stW, VC.stOK, VC.mixF, VC.setAll, Nat.reduceAdd, Nat.reduceSub, Nat.reduceMul, if_true, if_false, ↓reduceIte, forall_const, implies_true, reduceCtorEq, ne_eq, Nat.reduceBNe, Nat.reduceBEq, IntKind.signed, Nat.reduceEqDiff, Nat.reduceLeDiff, Nat.reduceLT, eq_self, Int.reduceEq, Int.reduceLT, Int.reduceLE, Int.reduceAdd, Int.reduceSub, VC.regC_nil, VC.regC_cons, VC.regCK_eq, VC.callQ, VC.tailQ, VC.goCall, VC.chStep]
    have cq : ∀ (x y : Int) (wr : World), Calls Try.prog 60 #[.int .i64 x, .int .i64 y] wr fun e w' => e = .returned (.int .i64 (sgn3 x y)) ∧ Below wr.heap.size wr w' := fun x y wr => (compare_any x y wr).mono fun e w' ⟨h1, h2⟩ => ⟨h1, h2 ▸ Below.refl _ _⟩
    refine CALLQ_of (v := .int .i64 (sgn3 (P (P i).k).tk (P i).tk)) (fun _ wr _ => cq _ _ wr) ?_
    simp -dsimp only [Fa.F31, rdSA_of b0, rdSN_of b0, rdSC_of b0, b0, Int.toNat_natCast, Nat.zero_add, rdI_of c0, c0, rdI_of c1, c1, rdI_of c2, c2, rdI_of c3, c3, rdB_of c4, c4, s0, s1, s2, s3, s4, rdI_of d0, d0, rdI_of d1, d1, rdI_of d2, d2, rdI_of d3, d3, rdB_of d4, d4, e1, VC.Now, VC.vc_skip, VC.vc_ret, VC.vc_exit, VC.vc_block, VC.vc_cond, VC.vc_region, VC.lib, VC.regQ, VC.loopK, VC.reg, VC.opP, VC.pv, VC.thenF, VC.blkF, VC.retF, VC.resV, VC.oneV, VC.evo, VC.bin, VC.binI, VC.cmpI, VC.arithI, VC.ldv, VC.slv, VC.pickP, VC.holds, VC.chainOf, VC.look, VC.junk, VC.put, VC.eff, VC.callee, VC.pureB, VC.rdK, VC.rdKs, VC.okKs, VC.eqKs, VC.fillL, VC.putL, VC.stW, VC.stOK, VC.mixF, VC.setAll, Nat.reduceAdd, Nat.reduceSub, Nat.reduceMul, if_true, if_false, ↓reduceIte, forall_const, implies_true, reduceCtorEq, ne_eq, Nat.reduceBNe, Nat.reduceBEq, IntKind.signed, Nat.reduceEqDiff, Nat.reduceLeDiff, Nat.reduceLT, eq_self, Int.reduceEq, Int.reduceLT, Int.reduceLE, Int.reduceAdd, Int.reduceSub, VC.regC_nil, VC.regC_cons, VC.regCK_eq, VC.callQ, VC.tailQ, VC.goCall, VC.chStep]
    refine CALLQ_of (v := .int .i64 (sgn3 (P i).k i)) (fun _ wr _ => cq _ _ wr) ?_
    simp -dsimp only [Fa.F31, rdSA_of b0, rdSN_of b0, rdSC_of b0, b0, Int.toNat_natCast, Nat.zero_add, rdI_of c0, c0, rdI_of c1, c1, rdI_of c2, c2, rdI_of c3, c3, rdB_of c4, c4, s0, s1, s2, s3, s4, rdI_of d0, d0, rdI_of d1, d1, rdI_of d2, d2, rdI_of d3, d3, rdB_of d4, d4, e1, VC.Now, VC.vc_skip, VC.vc_ret, VC.vc_exit, VC.vc_block, VC.vc_cond, VC.vc_region, VC.lib, VC.regQ, VC.loopK, VC.reg, VC.opP, VC.pv, VC.thenF, VC.blkF, VC.retF, VC.resV, VC.oneV, VC.evo, VC.bin, VC.binI, VC.cmpI, VC.arithI, VC.ldv, VC.slv, VC.pickP, VC.holds, VC.chainOf, VC.look, VC.junk, VC.put, VC.eff, VC.callee, VC.pureB, VC.rdK, VC.rdKs, VC.okKs, VC.eqKs, VC.fillL, VC.putL, VC.stW, VC.stOK, VC.mixF, VC.setAll, Nat.reduceAdd, Nat.reduceSub, Nat.reduceMul, if_true, if_false, ↓reduceIte, forall_const, implies_true, reduceCtorEq, ne_eq, Nat.reduceBNe, Nat.reduceBEq, IntKind.signed, Nat.reduceEqDiff, Nat.reduceLeDiff, Nat.reduceLT, eq_self, Int.reduceEq, Int.reduceLT, Int.reduceLE, Int.reduceAdd, Int.reduceSub, VC.regC_nil, VC.regC_cons, VC.regCK_eq, VC.callQ, VC.tailQ, VC.goCall, VC.chStep]
    rw [tailG_eq]
    intro v w' hB' hv
    have v1 : v 31 = .int .i64 (sgn3 (P (P i).k).tk (P i).tk) := hv 31 ⟨rfl, trivial⟩
    have v2 : v 37 = .int .i64 (sgn3 (P i).k i) := hv 37 ⟨rfl, trivial⟩
    simp -dsimp only [Fa.F31, v1, v2, VC.Now, VC.vc_skip, VC.vc_ret, VC.vc_exit, VC.vc_block, VC.vc_cond, VC.vc_region, VC.lib, VC.regQ, VC.loopK, VC.reg, VC.opP, VC.pv, VC.thenF, VC.blkF, VC.retF, VC.resV, VC.oneV, VC.evo, VC.bin, VC.binI, VC.cmpI, VC.arithI, VC.ldv, VC.slv, VC.pickP, VC.holds, VC.chainOf, VC.look, VC.junk, VC.put, VC.eff, VC.callee, VC.pureB, VC.rdK, VC.rdKs, VC.okKs, VC.eqKs, VC.fillL, VC.putL, VC.stW, VC.stOK, VC.mixF, VC.setAll, Nat.reduceAdd, Nat.reduceSub, Nat.reduceMul, if_true, if_false, ↓reduceIte, forall_const, implies_true, reduceCtorEq, ne_eq, Nat.reduceBNe, Nat.reduceBEq, IntKind.signed, Nat.reduceEqDiff, Nat.reduceLeDiff, Nat.reduceLT, eq_self, Int.reduceEq, Int.reduceLT, Int.reduceLE, Int.reduceAdd, Int.reduceSub, VC.regC_nil, VC.regC_cons, VC.regCK_eq, VC.callQ, VC.tailQ, VC.goCall, VC.chStep]
    have hrd : Rd (w'.alloc (.cells #[.int .i64 (sgn3 (P (P i).k).tk (P i).tk), .int .i64 (sgn3 (P i).k i)] 3)) (some ⟨w'.heap.size, 0, none⟩) ([sgn3 (P (P i).k).tk (P i).tk, sgn3 (P i).k i].map (Value.int .i64)) := fun _ => ⟨_, 0, rfl, by simp, fun k hk => by
      rw [cell_new rfl]
      match k, hk with
      | 0, _ => rfl
      | 1, _ => rfl⟩
    have hor := or_any (some ⟨w'.heap.size, 0, none⟩) 2 [sgn3 (P (P i).k).tk (P i).tk, sgn3 (P i).k i] _ hrd (by simp)
    rw [show [sgn3 ((P (P i).k).tk : Int) (P i).tk, sgn3 ((P i).k : Int) i].length = 2 from rfl] at hor
    refine CALL_of hor fun w9 hB9 => ?_
    have hd : Below w.heap.size w w9 := by
      have h1 := (below_drewN (Below.refl _ w) u).trans hB'
      exact (below_box h1 _).trans (hB9.mono (by have := h1.size; simp; omega))
    have hkey := @kCmp_neg (((P (P i).k).tk : Int), ((P i).k : Int)) (((P i).tk : Int), (i : Int))
    have hq : Shop B sb gp n vin P inn w9 := ⟨h.box.below hd, h.rc.below hd, h.own.below hd, h.apart, h.f1, h.f2⟩
    have hyl : yields P i = kLess (((P (P i).k).tk : Int), ((P i).k : Int)) (((P i).tk : Int), (i : Int)) := by unfold yields; rw [if_neg hz]
    by_cases hy : yields P i = true
    · have e : bnew n i P = P i := by unfold bnew; rw [if_neg (by omega), if_neg (by omega), if_neg (by omega), if_neg (by omega), if_pos h0, if_pos hy]
      have e2 : (orL [sgn3 ((P (P i).k).tk : Int) (P i).tk, sgn3 ((P i).k : Int) i] < 0) = True := eq_true (hkey.2 (hyl ▸ hy))
      simp -dsimp only [Fa.F31, e2, VC.Now, VC.vc_skip, VC.vc_ret, VC.vc_exit, VC.vc_block, VC.vc_cond, VC.vc_region, VC.lib, VC.regQ, VC.loopK, VC.reg, VC.opP, VC.pv, VC.thenF, VC.blkF, VC.retF, VC.resV, VC.oneV, VC.evo, VC.bin, VC.binI, VC.cmpI, VC.arithI, VC.ldv, VC.slv, VC.pickP, VC.holds, VC.chainOf, VC.look, VC.junk, VC.put, VC.eff, VC.callee, VC.pureB, VC.rdK, VC.rdKs, VC.okKs, VC.eqKs, VC.fillL, VC.putL, VC.stW, VC.stOK, VC.mixF, VC.setAll, Nat.reduceAdd, Nat.reduceSub, Nat.reduceMul, if_true, if_false, ↓reduceIte, forall_const, implies_true, reduceCtorEq, ne_eq, Nat.reduceBNe, Nat.reduceBEq, IntKind.signed, Nat.reduceEqDiff, Nat.reduceLeDiff, Nat.reduceLT, eq_self, Int.reduceEq, Int.reduceLT, Int.reduceLE, Int.reduceAdd, Int.reduceSub, VC.regC_nil, VC.regC_cons, VC.regCK_eq, VC.callQ, VC.tailQ, VC.goCall, VC.chStep]
      refine ⟨vin, Shop.end ?_ (noEnter (by omega)), Or.inl rfl, Agree.of_below hd⟩
      rw [e]; exact hq.start i
    · have e : bnew n i P = ⟨3, (P i).k + 1, (P i).m, (P i).tk, (P i).ch⟩ := by unfold bnew; rw [if_neg (by omega), if_neg (by omega), if_neg (by omega), if_neg (by omega), if_pos h0, if_neg hy]
      have e2 : (orL [sgn3 ((P (P i).k).tk : Int) (P i).tk, sgn3 ((P i).k : Int) i] < 0) = False := eq_false fun h => hy (hyl ▸ hkey.1 h)
      have h1 : Shop B sb gp n vin _ inn (w9.setCell ⟨gp, i * 5 + 1, none⟩ (.int .i64 (((P i).k : Int) + 1))) := (hq.start i).next hi ⟨(P i).at', (P i).k + 1, (P i).m, (P i).tk, (P i).ch⟩ (by omega) rfl
      have h2 := h1.next hi (j := 0) (v := .int .i64 3) ⟨3, (P i).k + 1, (P i).m, (P i).tk, (P i).ch⟩ (by omega) rfl
      have q1 := (hq.cell hi).2.1
      have q2 := (hq.soft hi).2.1
      simp -dsimp only [Fa.F31, e2, rdI_of q1, q1, q2, VC.Now, VC.vc, VC.lib, VC.regQ, VC.loopK, VC.reg, VC.opP, VC.pv, VC.thenF, VC.blkF, VC.retF, VC.resV, VC.oneV, VC.evo, VC.bin, VC.binI, VC.cmpI, VC.arithI, VC.ldv, VC.slv, VC.pickP, VC.holds, VC.chainOf, VC.look, VC.junk, VC.put, VC.eff, VC.callee, VC.pureB, VC.rdK, VC.rdKs, VC.okKs, VC.eqKs, VC.fillL, VC.putL, VC.stW, VC.stOK, VC.mixF, VC.setAll, Nat.reduceAdd, Nat.reduceSub, Nat.reduceMul, if_true, if_false, ↓reduceIte, forall_const, implies_true, reduceCtorEq, ne_eq, Nat.reduceBNe, Nat.reduceBEq, IntKind.signed, Nat.reduceEqDiff, Nat.reduceLeDiff, Nat.reduceLT, eq_self, Int.reduceEq, Int.reduceLT, Int.reduceLE, Int.reduceAdd, Int.reduceSub, VC.regC_nil, VC.regC_cons, VC.regCK_eq, VC.callQ, VC.tailQ, VC.goCall, VC.chStep]
      exact ⟨fits_i64 (by omega) (by omega), h1.ok (j := 0) hi (by omega), vin, (e ▸ h2).end (noEnter (by omega)), Or.inl rfl, agree_gp (agree_gp (Agree.of_below hd))⟩
end Go.Proofs.Ytnggjekppdlaoaa
