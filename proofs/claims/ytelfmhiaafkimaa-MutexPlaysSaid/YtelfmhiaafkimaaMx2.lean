/- One in at a time: a process's fields; who enters. -/
import Derived.Test.YtelfmhiaafkimaaMx1
namespace Go.Proofs.Ytelfmhiaafkimaa
open Go Go.RowKit Go.VC
set_option linter.unusedSimpArgs false
set_option linter.unusedVariables false
section
variable {B n : Nat} {a : XA} {s : MxS} {v : XV} {w : World}
def MxPost (B n : Nat) (a : XA) (s : MxS) (v : XV) (w : World) (d : Nat) (r : Value) (s' : MxS) (e : Ending) (w' : World) : Prop :=
  e = .returned r ∧ ∃ v', St B (XObs n a s v) w (XObs n a s' v') w' ∧ XM n v' ∧ v'.cnt ≤ v.cnt + d
theorem procF (h : Hp B (XObs n a s v) w) {i : Nat} (hi : i < n) : Box w (a.pb i) (mpL (s.pr i) (v.wv i)) := h.fget hi
theorem waitF (h : Hp B (XObs n a s v) w) {i : Nat} (hi : i < n) : OwnK w 0 3 1 (s.pr i).waits.length (v.wv i) (natL (s.pr i).waits) := by
  have h2 : Hp B ((headO n a s v ++ procO n a s v) ++ (waitO n s v ++ wayO n s v)) w := by rw [List.append_assoc]; exact h
  exact h2.fget hi
theorem ptrF (h : Hp B (XObs n a s v) w) {i : Nat} (hi : i < n) : w.cell? ⟨a.gp, i, none⟩ = some (ptrV (a.pb i)) := (h.get 1 rfl : Box w a.gp _).at (by simp [hi])
/-- A field of a process is set. -/
theorem XObs_proc (h : Hp B (XObs n a s v) w) {i : Nat} (hi : i < n) (j : Nat) (u : Value) (p' : MP) (hp : mpL p' (v.wv i) = (mpL (s.pr i) (v.wv i)).set j u) (hw : p'.waits = (s.pr i).waits) :
    St B (XObs n a s v) w (XObs n a { s with pr := upd s.pr i p' } v) (w.setCell ⟨a.pb i, j, none⟩ u) := by
  have st := h.fbox hi j u
  rw [← hp] at st
  have e1 : (fam n fun k => oBox (a.pb k) (upd (fun k => mpL (s.pr k) (v.wv k)) i (mpL p' (v.wv i)) k)) = procO n a { s with pr := upd s.pr i p' } v := by
    refine List.map_congr_left fun k _ => ?_
    by_cases e : k = i
    · subst e; show oBox _ (upd _ _ _ _) = oBox _ (mpL (upd s.pr _ p' _) _); rw [upd_same, upd_same]
    · show oBox _ (upd _ _ _ _) = oBox _ (mpL (upd s.pr _ p' _) _); rw [upd_other e, upd_other e]
  have e2 : waitO n s v = waitO n { s with pr := upd s.pr i p' } v := by
    refine List.map_congr_left fun k _ => ?_
    show oOwn _ _ (s.pr k).waits.length _ (natL (s.pr k).waits) = oOwn _ _ (upd s.pr i p' k).waits.length _ (natL (upd s.pr i p' k).waits)
    by_cases e : k = i
    · subst e; rw [upd_same, hw]
    · rw [upd_other e]
  rw [e1] at st
  show St B _ w (headO n a s v ++ (procO n a { s with pr := upd s.pr i p' } v ++ (waitO n { s with pr := upd s.pr i p' } v ++ wayO n s v))) _
  rw [← e2]
  exact st
/-- Who waits: another slice, in the box and by itself. -/
theorem XObs_wait (h : Hp B (XObs n a s v) w) {i : Nat} (hi : i < n) {v' : Value} {ws : List Nat} {w1 : World} (ho : OwnK w1 0 3 1 ws.length v' (natL ws)) (hA : Agree (fun j => (v.wv i).ownBlock = some j) w w1) (hs : v'.ownBlock = (v.wv i).ownBlock ∨ ∀ g, v'.ownBlock = some g → w.heap.size ≤ g) :
    St B (XObs n a s v) w (XObs n a { s with pr := upd s.pr i { s.pr i with waits := ws } } { v with wv := upd v.wv i v' }) (w1.setCell ⟨a.pb i, 3, none⟩ v') := by
  have h2 : Hp B ((headO n a s v ++ procO n a s v) ++ (waitO n s v ++ wayO n s v)) w := by rw [List.append_assoc]; exact h
  have st1 := h2.fst hi (o' := oOwn 3 1 ws.length v' (natL ws)) (w' := w1) ho hA hs
  have e2 : fam n (upd (fun k => oOwn 3 1 (s.pr k).waits.length (v.wv k) (natL (s.pr k).waits)) i (oOwn 3 1 ws.length v' (natL ws))) = waitO n { s with pr := upd s.pr i { s.pr i with waits := ws } } { v with wv := upd v.wv i v' } := by
    refine List.map_congr_left fun k _ => ?_
    show upd _ _ _ k = oOwn _ _ (upd s.pr i { s.pr i with waits := ws } k).waits.length (upd v.wv i v' k) (natL (upd s.pr i { s.pr i with waits := ws } k).waits)
    by_cases e : k = i
    · subst e; rw [upd_same, upd_same, upd_same]
    · rw [upd_other e, upd_other e, upd_other e]
  rw [e2] at st1
  have h3 : Hp B (headO n a s v ++ (procO n a s v ++ (waitO n { s with pr := upd s.pr i { s.pr i with waits := ws } } { v with wv := upd v.wv i v' } ++ wayO n s v))) w1 := by rw [← List.append_assoc]; exact st1.hp
  have st2 := h3.fbox hi 3 v'
  have e1 : (fam n fun k => oBox (a.pb k) (upd (fun k => mpL (s.pr k) (v.wv k)) i ((mpL (s.pr i) (v.wv i)).set 3 v') k)) = procO n a { s with pr := upd s.pr i { s.pr i with waits := ws } } { v with wv := upd v.wv i v' } := by
    refine List.map_congr_left fun k _ => ?_
    show oBox _ (upd _ _ _ k) = oBox _ (mpL (upd s.pr i { s.pr i with waits := ws } k) (upd v.wv i v' k))
    by_cases e : k = i
    · subst e; rw [upd_same, upd_same, upd_same]; rfl
    · rw [upd_other e, upd_other e, upd_other e]
  rw [e1] at st2
  have st1' : St B (XObs n a s v) w (headO n a s v ++ (procO n a s v ++ (waitO n { s with pr := upd s.pr i { s.pr i with waits := ws } } { v with wv := upd v.wv i v' } ++ wayO n s v))) w1 := by
    have := st1
    rw [List.append_assoc, List.append_assoc] at this
    exact this
  exact st1'.trans st2
theorem XM.same {v' : XV} (h : XM n v) (h1 : v'.M = v.M) (h2 : v'.qv = v.qv) : XM n v' := ⟨fun x hx => h.key x (by rw [← h1]; exact hx), fun i j hi hj => by rw [h1, h2]; exact h.val i j hi hj⟩

set_option maxRecDepth 8000 in
set_option maxHeartbeats 4000000 in
theorem enter_any (h : Hp B (XObs n a s v) w) (hv : XM n v) {i : Nat} (hi : i < n) (hn : n ≤ 6) (hin : s.inn.length ≤ 10000) :
    Calls Try.prog 121 #[ptrV a.wb, iV i] w (MxPost B n a s v w 0 (.tuple #[]) (menter n i s)) := by
  have bw : Box w a.wb [.slice (some ⟨a.gp, 0, none⟩) n a.gc, .map (some a.mb), v.inV] := h.get 0 rfl
  have m0 := bw.at (i := 0) rfl
  have m2 := bw.at (i := 2) rfl
  have hwl := bw.1
  have hgl := (h.get 1 rfl : Box w a.gp _).1
  have g0 := ptrF h hi
  have bp := procF h hi
  have p1 := bp.at (i := 1) rfl
  have p4 := bp.at (i := 4) rfl
  have f1 := bp.soft (i := 1) (by show 1 < 5; omega)
  have k1 : (w.cell? ⟨a.pb i, 1, none⟩).isSome = true := by rw [p1]; rfl
  have hpl := bp.1
  by_cases q1 : (s.pr i).how = 1
  case neg =>
    have e1 := eq_false q1
    have hs : menter n i s = s := by unfold menter; rw [if_neg (fun hh => q1 hh.1)]
    refine calls_vc (rs := []) Fa.mix Try.func121 rfl Try.ntmps121 rfl (by kernel_rfl) (Nat.le_of_ble_eq_true rfl) ?_
    simp -dsimp (maxSteps := 2000000) only [Fa.F121, rdSA_of m0, rdSN_of m0, rdSC_of m0, m0, hwl, rdP_of g0, g0, hgl, rdI_of p1, p1, hpl, e1, Int.toNat_natCast, Nat.zero_add, undef, tu, uf, ul, ur, VC.Now, VC.vc, VC.lib, VC.mapN_drewN, VC.mapB_drewN, VC.regQ, VC.loopK, VC.reg, VC.opP, VC.opS, VC.opZ, VC.nomulB, VC.pv, VC.thenF, VC.blkF, VC.retF, VC.resV, VC.oneV, VC.evo, VC.bin, VC.binI, VC.cmpI, VC.arithI, VC.ldv, VC.slv, VC.pickP, VC.holds, VC.chainOf, VC.look, VC.junk, VC.put, VC.eff, VC.callee, VC.pureB, VC.rdK, VC.rdKs, VC.okKs, VC.eqKs, VC.fillL, VC.putL, VC.stW, VC.stOK, VC.mixF, VC.setAll, Nat.reduceAdd, Nat.reduceSub, Nat.reduceMul, if_true, if_false, ↓reduceIte, forall_const, implies_true, reduceCtorEq, ne_eq, Nat.reduceBNe, Nat.reduceBEq, IntKind.signed, Nat.reduceEqDiff, Nat.reduceLeDiff, Nat.reduceLT, eq_self, Int.reduceEq, Int.reduceLT, Int.reduceLE, Int.reduceAdd, Int.reduceSub, VC.regC_nil, VC.regC_cons, VC.regCK_eq, VC.callQ, VC.tailQ, VC.goCall, VC.chStep]
    refine ⟨⟨by omega, by omega⟩, fun m => ⟨rfl, v, ?_, hv, Nat.le_refl _⟩⟩
    rw [hs]
    exact h.below_st (below_drewN (Below.refl _ w) m)
  have e1 := eq_true q1
  by_cases q2 : (s.pr i).yes = (n : Int) - 1
  case neg =>
    have e2 := eq_false q2
    have hs : menter n i s = s := by unfold menter; rw [if_neg (fun hh => q2 hh.2)]
    refine calls_vc (rs := []) Fa.mix Try.func121 rfl Try.ntmps121 rfl (by kernel_rfl) (Nat.le_of_ble_eq_true rfl) ?_
    simp -dsimp (maxSteps := 2000000) only [Fa.F121, rdSA_of m0, rdSN_of m0, rdSC_of m0, m0, hwl, rdP_of g0, g0, hgl, rdI_of p1, p1, rdI_of p4, p4, hpl, e1, e2, Int.toNat_natCast, Nat.zero_add, undef, tu, uf, ul, ur, VC.Now, VC.vc, VC.lib, VC.mapN_drewN, VC.mapB_drewN, VC.regQ, VC.loopK, VC.reg, VC.opP, VC.opS, VC.opZ, VC.nomulB, VC.pv, VC.thenF, VC.blkF, VC.retF, VC.resV, VC.oneV, VC.evo, VC.bin, VC.binI, VC.cmpI, VC.arithI, VC.ldv, VC.slv, VC.pickP, VC.holds, VC.chainOf, VC.look, VC.junk, VC.put, VC.eff, VC.callee, VC.pureB, VC.rdK, VC.rdKs, VC.okKs, VC.eqKs, VC.fillL, VC.putL, VC.stW, VC.stOK, VC.mixF, VC.setAll, Nat.reduceAdd, Nat.reduceSub, Nat.reduceMul, if_true, if_false, ↓reduceIte, forall_const, implies_true, reduceCtorEq, ne_eq, Nat.reduceBNe, Nat.reduceBEq, IntKind.signed, Nat.reduceEqDiff, Nat.reduceLeDiff, Nat.reduceLT, eq_self, Int.reduceEq, Int.reduceLT, Int.reduceLE, Int.reduceAdd, Int.reduceSub, VC.regC_nil, VC.regC_cons, VC.regCK_eq, VC.callQ, VC.tailQ, VC.goCall, VC.chStep]
    refine ⟨⟨by omega, by omega⟩, fits_i64 (by omega) (by omega), fun m => ⟨rfl, v, ?_, hv, Nat.le_refl _⟩⟩
    rw [hs]
    exact h.below_st (below_drewN (Below.refl _ w) m)
  have e2 := eq_true q2
  have hs : menter n i s = { s with pr := upd s.pr i { s.pr i with how := 2 }, inn := s.inn ++ [i] } := by unfold menter; rw [if_pos ⟨q1, q2⟩]
  obtain ⟨Ai, ci, ei, _⟩ := id (h.get 3 rfl : OwnK w 0 3 1 s.inn.length v.inV _)
  have st := fun m => XObs_proc (h.drewN m) hi 1 (iV 2) { s.pr i with how := 2 } rfl rfl
  have km : ∀ m, ((w.drewN m).setCell ⟨a.pb i, 1, none⟩ (.int .i64 2)).cell? ⟨a.wb, 2, none⟩ = some (.slice Ai s.inn.length ci) := fun m => by
    rw [← ei]; exact ((st m).hp.get 0 rfl : Box _ a.wb _).at (i := 2) rfl
  refine calls_vc (rs := []) Fa.mix Try.func121 rfl Try.ntmps121 rfl (by kernel_rfl) (Nat.le_of_ble_eq_true rfl) ?_
  simp -dsimp (maxSteps := 2000000) only [Fa.F121, rdSA_of m0, rdSN_of m0, rdSC_of m0, m0, hwl, rdP_of g0, g0, hgl, rdI_of p1, p1, rdI_of p4, p4, hpl, e1, e2, f1, k1, fun m => rdSA_of (km m), fun m => rdSN_of (km m), fun m => rdSC_of (km m), km, Int.toNat_natCast, Nat.zero_add, undef, tu, uf, ul, ur, VC.Now, VC.vc, VC.lib, VC.mapN_drewN, VC.mapB_drewN, VC.regQ, VC.loopK, VC.reg, VC.opP, VC.opS, VC.opZ, VC.nomulB, VC.pv, VC.thenF, VC.blkF, VC.retF, VC.resV, VC.oneV, VC.evo, VC.bin, VC.binI, VC.cmpI, VC.arithI, VC.ldv, VC.slv, VC.pickP, VC.holds, VC.chainOf, VC.look, VC.junk, VC.put, VC.eff, VC.callee, VC.pureB, VC.rdK, VC.rdKs, VC.okKs, VC.eqKs, VC.fillL, VC.putL, VC.stW, VC.stOK, VC.mixF, VC.setAll, Nat.reduceAdd, Nat.reduceSub, Nat.reduceMul, if_true, if_false, ↓reduceIte, forall_const, implies_true, reduceCtorEq, ne_eq, Nat.reduceBNe, Nat.reduceBEq, IntKind.signed, Nat.reduceEqDiff, Nat.reduceLeDiff, Nat.reduceLT, eq_self, Int.reduceEq, Int.reduceLT, Int.reduceLE, Int.reduceAdd, Int.reduceSub, VC.regC_nil, VC.regC_cons, VC.regCK_eq, VC.callQ, VC.tailQ, VC.goCall, VC.chStep]
  refine ⟨⟨by omega, by omega⟩, fits_i64 (by omega) (by omega), fun u9 m => ?_⟩
  have stm := st m
  have hB : St B (XObs n a s v) w (XObs n a s v) (w.drewN m) := h.below_st (below_drewN (Below.refl _ w) m)
  have h2 := stm.hp
  have s2 := hB.trans stm
  generalize (w.drewN m).setCell ⟨a.pb i, 1, none⟩ (.int .i64 2) = w2 at h2 s2 ⊢
  have hown : OwnK w2 0 3 1 s.inn.length v.inV (natL s.inn) := h2.get 3 rfl
  refine OPW_appK (v := v.inV) rfl Fa.apI23 (by rw [ei]; rfl) rfl rfl (by simp [Value.oneCell']) hown (Nat.zero_le _) (by omega) (by decide) fun v5 w5 ho5 hg5 hst5 => ?_
  have hnl : natL s.inn ++ [.int .i64 (i : Int)] = natL (s.inn ++ [i]) := by simp
  rw [hnl] at ho5
  obtain ⟨⟨r1, r2⟩, st6⟩ := h2.growField 0 3 rfl rfl (by decide) ho5 hg5 hst5 2 (by show 2 < 3; omega)
  obtain ⟨A5, c5, rfl, _⟩ := id ho5
  have hw5 : a.wb < w5.heap.size := by simpa using (st6.hp.get 0 rfl : Box _ a.wb _).1
  rw [VC.Now, VC.seqK_eq]
  simp -dsimp (maxSteps := 2000000) only [Fa.F121, hw5, VC.Now, VC.vc, VC.lib, VC.mapN_drewN, VC.mapB_drewN, VC.regQ, VC.loopK, VC.reg, VC.opP, VC.opS, VC.opZ, VC.nomulB, VC.pv, VC.thenF, VC.blkF, VC.retF, VC.resV, VC.oneV, VC.evo, VC.bin, VC.binI, VC.cmpI, VC.arithI, VC.ldv, VC.slv, VC.pickP, VC.holds, VC.chainOf, VC.look, VC.junk, VC.put, VC.eff, VC.callee, VC.pureB, VC.rdK, VC.rdKs, VC.okKs, VC.eqKs, VC.fillL, VC.putL, VC.stW, VC.stOK, VC.mixF, VC.setAll, Nat.reduceAdd, Nat.reduceSub, Nat.reduceMul, if_true, if_false, ↓reduceIte, forall_const, implies_true, reduceCtorEq, ne_eq, Nat.reduceBNe, Nat.reduceBEq, IntKind.signed, Nat.reduceEqDiff, Nat.reduceLeDiff, Nat.reduceLT, eq_self, Int.reduceEq, Int.reduceLT, Int.reduceLE, Int.reduceAdd, Int.reduceSub, VC.regC_nil, VC.regC_cons, VC.regCK_eq, VC.callQ, VC.tailQ, VC.goCall, VC.chStep]
  refine ⟨⟨r1, r2⟩, rfl, { v with inV := .slice A5 (s.inn.length + 1) c5 }, ?_, hv.same rfl rfl, Nat.le_refl _⟩
  rw [hs]
  have e9 : (s.inn ++ [i]).length = s.inn.length + 1 := by simp
  have st6 : St B (XObs n a { s with pr := upd s.pr i { s.pr i with how := 2 } } v) w2 (XObs n a { s with pr := upd s.pr i { s.pr i with how := 2 }, inn := s.inn ++ [i] } { v with inV := .slice A5 (s.inn.length + 1) c5 }) (w5.setCell ⟨a.wb, 2, none⟩ (.slice A5 (s.inn.length + 1) c5)) := by
    unfold XObs headO
    rw [e9]
    exact st6
  exact s2.trans st6
end
end Go.Proofs.Ytelfmhiaafkimaa
