/- A picture of what moves: the first thing on a way comes. -/
import Derived.Test.YtelfmhiaafkimaaSnap2
namespace Go.Proofs.Ytelfmhiaafkimaa
open Go Go.RowKit Go.VC
set_option linter.unusedSimpArgs false
set_option linter.unusedVariables false
def ptake (n i j : Nat) (p : NP) : Int × NP :=
  match p.que (j * n + i) with
  | [] => (5, p)
  | x :: q => if x = -1 then (0, { pnote n i { p with que := upd p.que (j * n + i) q } with clo := upd p.clo (j * n + i) true })
    else (0, { p with que := upd p.que (j * n + i) q, money := upd p.money i (p.money i + x), nts := if p.own i = -1 ∨ p.clo (j * n + i) = true then p.nts else upd p.nts (j * n + i) (p.nts (j * n + i) ++ [x]) })
section
variable {B n : Nat} {a : NA} {p : NP} {v : NV} {w : World}
theorem pnote_clo {n i : Nat} {p : NP} : (pnote n i p).clo = p.clo := by unfold pnote; split <;> rfl
set_option maxRecDepth 8000 in
set_option maxHeartbeats 4000000 in
theorem take_any (h : Hp B (NObs n a p v) w) {i j : Nat} (hi : i < n) (hj : j < n) (hij : j ≠ i) (hn : n ≤ 6) (hl : ∀ t, (p.que t).length ≤ 50000) (hl2 : (p.nts (j * n + i)).length ≤ 50000) (hf : ∀ x ∈ p.que (j * n + i), fits .i64 (p.money i + x)) :
    Calls Try.prog 94 #[ptrV a.wb, iV j, iV i] w fun e w' => e = .returned (iV (ptake n i j p).1) ∧ ∃ v', St B (NObs n a p v) w (NObs n a (ptake n i j p).2 v') w' := by
  have bw : Box w a.wb [.slice (some ⟨a.gp, 0, none⟩) n a.gc, .map (some a.mb)] := h.get 0 rfl
  have m1 := bw.at (i := 1) rfl
  have hwl := bw.1
  have hM : MapV Try.prog EW w a.mb a.cnt (wayM n a.xb) := h.get 2 rfl
  have hkey := EW_ok (i := j) (j := i) (by omega) (by omega)
  have ht := idx_lt hj hi
  have hd : (j * n + i) / n ≠ (j * n + i) % n := by rw [(idx_div hi).1, (idx_div hi).2]; exact hij
  have bx := NObs.box h ht hd
  have hQ := NObs.que h ht
  have hxl := bx.1
  have hval : (wayM n a.xb ((j : Int), (i : Int))).getD (.pointer none) = ptrV (a.xb (j * n + i)) := by rw [wayM_at hj hi hij]; rfl
  cases hq : p.que (j * n + i) with
  | nil =>
    have hs : ptake n i j p = (5, p) := by unfold ptake; rw [hq]
    rw [hs]
    rw [hq] at hQ
    obtain ⟨A, c, eqv⟩ := hQ.form
    have bx0 := bx
    rw [eqv] at bx0
    have q0 := bx0.at (i := 0) rfl
    refine calls_vc (rs := [.tmp 6]) Fa.mix Try.func94 rfl Try.ntmps94 rfl (by kernel_rfl) (Nat.le_of_ble_eq_true rfl) ?_
    simp -dsimp (maxSteps := 2000000) only [Fa.F94, rdM_of m1, m1, hwl, VC.Now, VC.vc, VC.lib, VC.mapN_drewN, VC.mapB_drewN, VC.regQ, VC.loopK, VC.reg, VC.opP, VC.opS, VC.opZ, VC.nomulB, VC.pv, VC.thenF, VC.blkF, VC.retF, VC.resV, VC.oneV, VC.evo, VC.bin, VC.binI, VC.cmpI, VC.arithI, VC.ldv, VC.slv, VC.pickP, VC.holds, VC.chainOf, VC.look, VC.junk, VC.put, VC.eff, VC.callee, VC.pureB, VC.rdK, VC.rdKs, VC.okKs, VC.eqKs, VC.fillL, VC.putL, VC.stW, VC.stOK, VC.mixF, VC.setAll, Nat.reduceAdd, Nat.reduceSub, Nat.reduceMul, if_true, if_false, ↓reduceIte, forall_const, implies_true, reduceCtorEq, ne_eq, Nat.reduceBNe, Nat.reduceBEq, IntKind.signed, Nat.reduceEqDiff, Nat.reduceLeDiff, Nat.reduceLT, eq_self, Int.reduceEq, Int.reduceLT, Int.reduceLE, Int.reduceAdd, Int.reduceSub, VC.regC_nil, VC.regC_cons, VC.regCK_eq, VC.callQ, VC.tailQ, VC.goCall, VC.chStep]
    refine OPW_lookV (x := ((j : Int), (i : Int))) (z := .pointer none) hM rfl (by kernel_rfl) rfl rfl hkey hval ?_
    rw [VC.Now, VC.seqK_eq]
    have e0 : (((0 : Nat) : Int) = 0) = True := eq_true rfl
    simp -dsimp (maxSteps := 2000000) only [Fa.F94, rdSA_of q0, rdSN_of q0, rdSC_of q0, q0, hxl, e0, VC.Now, VC.vc, VC.lib, VC.mapN_drewN, VC.mapB_drewN, VC.regQ, VC.loopK, VC.reg, VC.opP, VC.opS, VC.opZ, VC.nomulB, VC.pv, VC.thenF, VC.blkF, VC.retF, VC.resV, VC.oneV, VC.evo, VC.bin, VC.binI, VC.cmpI, VC.arithI, VC.ldv, VC.slv, VC.pickP, VC.holds, VC.chainOf, VC.look, VC.junk, VC.put, VC.eff, VC.callee, VC.pureB, VC.rdK, VC.rdKs, VC.okKs, VC.eqKs, VC.fillL, VC.putL, VC.stW, VC.stOK, VC.mixF, VC.setAll, Nat.reduceAdd, Nat.reduceSub, Nat.reduceMul, if_true, if_false, ↓reduceIte, forall_const, implies_true, reduceCtorEq, ne_eq, Nat.reduceBNe, Nat.reduceBEq, IntKind.signed, Nat.reduceEqDiff, Nat.reduceLeDiff, Nat.reduceLT, eq_self, Int.reduceEq, Int.reduceLT, Int.reduceLE, Int.reduceAdd, Int.reduceSub, VC.regC_nil, VC.regC_cons, VC.regCK_eq, VC.callQ, VC.tailQ, VC.goCall, VC.chStep]
    exact ⟨v, St.refl h⟩
  | cons x q =>
    rw [hq] at hQ
    obtain ⟨gq, oq, cap, eq2, hcap, hgq, hcell, _⟩ := hQ.some (by simp)
    have t0 : w.cell? ⟨gq, oq, none⟩ = some (iV x) := hcell 0 _ rfl
    obtain ⟨L, hL⟩ : ∃ L, L = ((x :: q).map iV).length := ⟨_, rfl⟩
    have hL1 : L = q.length + 1 := by rw [hL]; simp
    rw [← hL] at eq2 hcap
    have bx0 := bx
    rw [eq2] at bx0
    have q0 := bx0.at (i := 0) rfl
    have f0 := bx0.soft (i := 0) (by show 0 < 3; omega)
    have k0 : (w.cell? ⟨a.xb (j * n + i), 0, none⟩).isSome = true := by rw [q0]; rfl
    have e0 : ((L : Int) = 0) = False := eq_false (by omega)
    refine calls_vc (rs := [.tmp 6]) Fa.mix Try.func94 rfl Try.ntmps94 rfl (by kernel_rfl) (Nat.le_of_ble_eq_true rfl) ?_
    simp -dsimp (maxSteps := 2000000) only [Fa.F94, rdM_of m1, m1, hwl, VC.Now, VC.vc, VC.lib, VC.mapN_drewN, VC.mapB_drewN, VC.regQ, VC.loopK, VC.reg, VC.opP, VC.opS, VC.opZ, VC.nomulB, VC.pv, VC.thenF, VC.blkF, VC.retF, VC.resV, VC.oneV, VC.evo, VC.bin, VC.binI, VC.cmpI, VC.arithI, VC.ldv, VC.slv, VC.pickP, VC.holds, VC.chainOf, VC.look, VC.junk, VC.put, VC.eff, VC.callee, VC.pureB, VC.rdK, VC.rdKs, VC.okKs, VC.eqKs, VC.fillL, VC.putL, VC.stW, VC.stOK, VC.mixF, VC.setAll, Nat.reduceAdd, Nat.reduceSub, Nat.reduceMul, if_true, if_false, ↓reduceIte, forall_const, implies_true, reduceCtorEq, ne_eq, Nat.reduceBNe, Nat.reduceBEq, IntKind.signed, Nat.reduceEqDiff, Nat.reduceLeDiff, Nat.reduceLT, eq_self, Int.reduceEq, Int.reduceLT, Int.reduceLE, Int.reduceAdd, Int.reduceSub, VC.regC_nil, VC.regC_cons, VC.regCK_eq, VC.callQ, VC.tailQ, VC.goCall, VC.chStep]
    refine OPW_lookV (x := ((j : Int), (i : Int))) (z := .pointer none) hM rfl (by kernel_rfl) rfl rfl hkey hval ?_
    rw [VC.Now, VC.seqK_eq]
    obtain ⟨Aq, hAq⟩ : ∃ Aq : Option Addr, Aq = (if cap = Int.toNat 1 then some ⟨gq, oq, none⟩ else some ⟨gq, oq + Int.toNat 1, none⟩) := ⟨_, rfl⟩
    obtain ⟨tv, htv⟩ : ∃ tv, tv = Value.slice Aq (L - Int.toNat 1) (cap - Int.toNat 1) := ⟨_, rfl⟩
    have hQt : OwnQ w 3 tv (q.map iV) := by
      rw [htv, hAq]
      have hh : OwnQ w 3 (.slice (some ⟨gq, oq, none⟩) L cap) (iV x :: q.map iV) := by rw [← eq2]; exact hQ
      exact hh.tail
    have hob : tv.ownBlock = (v.qv (j * n + i)).ownBlock := by
      rw [htv, eq2, hAq]
      split <;> rfl
    have st1 := NObs.cut h ht hd hQt hob
    have hh1 := st1.hp
    by_cases hx : x = -1
    · have e1 := eq_true hx
      have hs : ptake n i j p = (0, { pnote n i { p with que := upd p.que (j * n + i) q } with clo := upd p.clo (j * n + i) true }) := by
        unfold ptake
        simp only [hq]
        rw [if_pos hx]
      rw [hs]
      simp -dsimp (maxSteps := 2000000) only [Fa.F94, rdSA_of q0, rdSN_of q0, rdSC_of q0, q0, hxl, e0, rdI_of t0, t0, hgq, f0, k0, e1, Int.toNat_natCast, Nat.add_zero, VC.Now, VC.vc, VC.lib, VC.mapN_drewN, VC.mapB_drewN, VC.regQ, VC.loopK, VC.reg, VC.opP, VC.opS, VC.opZ, VC.nomulB, VC.pv, VC.thenF, VC.blkF, VC.retF, VC.resV, VC.oneV, VC.evo, VC.bin, VC.binI, VC.cmpI, VC.arithI, VC.ldv, VC.slv, VC.pickP, VC.holds, VC.chainOf, VC.look, VC.junk, VC.put, VC.eff, VC.callee, VC.pureB, VC.rdK, VC.rdKs, VC.okKs, VC.eqKs, VC.fillL, VC.putL, VC.stW, VC.stOK, VC.mixF, VC.setAll, Nat.reduceAdd, Nat.reduceSub, Nat.reduceMul, if_true, if_false, ↓reduceIte, forall_const, implies_true, reduceCtorEq, ne_eq, Nat.reduceBNe, Nat.reduceBEq, IntKind.signed, Nat.reduceEqDiff, Nat.reduceLeDiff, Nat.reduceLT, eq_self, Int.reduceEq, Int.reduceLT, Int.reduceLE, Int.reduceAdd, Int.reduceSub, VC.regC_nil, VC.regC_cons, VC.regCK_eq, VC.callQ, VC.tailQ, VC.goCall, VC.chStep]
      refine ⟨by omega, by omega, ?_⟩
      rw [← hAq, ← htv]
      refine CALL_by (note_any hh1 hi hn (fun t => ?_)) ?_
      · show (upd p.que (j * n + i) q t).length ≤ 50000
        by_cases e : t = j * n + i
        · rw [e, upd_same]; have := hl (j * n + i); rw [hq] at this; simp at this; omega
        · rw [upd_other e]; exact hl t
      rintro _ w3 ⟨rfl, v3, st3, hnv3⟩
      refine ⟨_, rfl, ?_⟩
      have st4 := st1.trans st3
      have bx3 := NObs.box st4.hp ht hd
      have f3 := bx3.soft (i := 2) (by show 2 < 3; omega)
      have k3 : (w3.cell? ⟨a.xb (j * n + i), 2, none⟩).isSome = true := by rw [bx3.at (i := 2) rfl]; rfl
      have hxl3 := bx3.1
      have st5 := st4.trans (NObs.close st4.hp ht hd)
      rw [pnote_clo] at st5
      rw [VC.Now, VC.seqK_eq]
      simp -dsimp (maxSteps := 2000000) only [Fa.F94, hxl3, f3, k3, VC.Now, VC.vc, VC.lib, VC.mapN_drewN, VC.mapB_drewN, VC.regQ, VC.loopK, VC.reg, VC.opP, VC.opS, VC.opZ, VC.nomulB, VC.pv, VC.thenF, VC.blkF, VC.retF, VC.resV, VC.oneV, VC.evo, VC.bin, VC.binI, VC.cmpI, VC.arithI, VC.ldv, VC.slv, VC.pickP, VC.holds, VC.chainOf, VC.look, VC.junk, VC.put, VC.eff, VC.callee, VC.pureB, VC.rdK, VC.rdKs, VC.okKs, VC.eqKs, VC.fillL, VC.putL, VC.stW, VC.stOK, VC.mixF, VC.setAll, Nat.reduceAdd, Nat.reduceSub, Nat.reduceMul, if_true, if_false, ↓reduceIte, forall_const, implies_true, reduceCtorEq, ne_eq, Nat.reduceBNe, Nat.reduceBEq, IntKind.signed, Nat.reduceEqDiff, Nat.reduceLeDiff, Nat.reduceLT, eq_self, Int.reduceEq, Int.reduceLT, Int.reduceLE, Int.reduceAdd, Int.reduceSub, VC.regC_nil, VC.regC_cons, VC.regCK_eq, VC.callQ, VC.tailQ, VC.goCall, VC.chStep]
      exact ⟨v3, st5⟩
    · have e1 := eq_false hx
      have hfit := hf x (by rw [hq]; simp)
      have bw1 : Box (w.setCell ⟨a.xb (j * n + i), 0, none⟩ tv) a.wb [.slice (some ⟨a.gp, 0, none⟩) n a.gc, .map (some a.mb)] := hh1.get 0 rfl
      have b0 := bw1.at (i := 0) rfl
      have hwl1 := bw1.1
      have hR : Recs (w.setCell ⟨a.xb (j * n + i), 0, none⟩ tv) a.gp n 2 (fun k => prL p k) := hh1.get 1 rfl
      have c0 := hR.at hi (j := 0) (by omega) rfl
      have d0 := hR.soft hi (j := 0) (by omega)
      rw [Nat.add_zero] at c0 d0
      have g0 : ((w.setCell ⟨a.xb (j * n + i), 0, none⟩ tv).cell? ⟨a.gp, i * 2, none⟩).isSome = true := by rw [c0]; rfl
      have hgl := hR.1
      have st2 := st1.trans (NObs.pay hh1 hi (p.money i + x))
      have hh2 := st2.hp
      have bw2 : Box _ a.wb [.slice (some ⟨a.gp, 0, none⟩) n a.gc, .map (some a.mb)] := hh2.get 0 rfl
      have b2 := bw2.at (i := 0) rfl
      have hwl2 := bw2.1
      have hR2 : Recs _ a.gp n 2 (fun k => prL { p with que := upd p.que (j * n + i) q, money := upd p.money i (p.money i + x) } k) := hh2.get 1 rfl
      have c1 : _ = some (iV (p.own i)) := hR2.at hi (j := 1) (by omega) rfl
      have hgl2 := hR2.1
      have bx2 := NObs.box hh2 ht hd
      have hN := NObs.nts hh2 ht
      obtain ⟨An, cn, en, _⟩ := id hN
      have en : v.nv (j * n + i) = .slice An (p.nts (j * n + i)).length cn := en
      have bx2' := bx2
      rw [show ({ v with qv := upd v.qv (j * n + i) tv } : NV).nv (j * n + i) = v.nv (j * n + i) from rfl, en] at bx2'
      have n1 := bx2'.at (i := 1) rfl
      have n2 : _ = some (Value.bool (p.clo (j * n + i))) := bx2'.at (i := 2) rfl
      have hxl2 := bx2'.1
      rw [Nat.add_zero, htv] at b2 hwl2 c1 hgl2 n1 n2 hxl2
      rw [htv] at b0 hwl1 c0 d0 g0 hgl st2 hh2 hN bx2
      by_cases ho : p.own i = -1
      · have e2 := eq_true ho
        have hs : ptake n i j p = (0, { p with que := upd p.que (j * n + i) q, money := upd p.money i (p.money i + x) }) := by
          unfold ptake
          simp only [hq]
          rw [if_neg hx, if_pos (Or.inl ho)]
        rw [hs]
        simp -dsimp (maxSteps := 2000000) only [Fa.F94, rdSA_of q0, rdSN_of q0, rdSC_of q0, q0, hxl, e0, rdI_of t0, t0, hgq, f0, k0, e1, ← hAq, rdSA_of b0, rdSN_of b0, rdSC_of b0, b0, rdI_of c0, c0, d0, g0, hwl1, hgl, rdSA_of b2, rdSN_of b2, rdSC_of b2, b2, rdI_of c1, c1, hwl2, hgl2, e2, Int.toNat_natCast, Nat.add_zero, Nat.zero_add, undef, tu, uf, ul, ur, VC.Now, VC.vc, VC.lib, VC.mapN_drewN, VC.mapB_drewN, VC.regQ, VC.loopK, VC.reg, VC.opP, VC.opS, VC.opZ, VC.nomulB, VC.pv, VC.thenF, VC.blkF, VC.retF, VC.resV, VC.oneV, VC.evo, VC.bin, VC.binI, VC.cmpI, VC.arithI, VC.ldv, VC.slv, VC.pickP, VC.holds, VC.chainOf, VC.look, VC.junk, VC.put, VC.eff, VC.callee, VC.pureB, VC.rdK, VC.rdKs, VC.okKs, VC.eqKs, VC.fillL, VC.putL, VC.stW, VC.stOK, VC.mixF, VC.setAll, Nat.reduceAdd, Nat.reduceSub, Nat.reduceMul, if_true, if_false, ↓reduceIte, forall_const, implies_true, reduceCtorEq, ne_eq, Nat.reduceBNe, Nat.reduceBEq, IntKind.signed, Nat.reduceEqDiff, Nat.reduceLeDiff, Nat.reduceLT, eq_self, Int.reduceEq, Int.reduceLT, Int.reduceLE, Int.reduceAdd, Int.reduceSub, VC.regC_nil, VC.regC_cons, VC.regCK_eq, VC.callQ, VC.tailQ, VC.goCall, VC.chStep]
        exact ⟨by omega, by omega, ⟨by omega, by omega⟩, hfit, ⟨by omega, by omega⟩, ⟨by omega, by omega⟩, _, st2⟩
      have e2 := eq_false ho
      cases hcl : p.clo (j * n + i) with
      | true =>
        have hs : ptake n i j p = (0, { p with que := upd p.que (j * n + i) q, money := upd p.money i (p.money i + x) }) := by
          unfold ptake
          simp only [hq]
          rw [if_neg hx, if_pos (Or.inr hcl)]
        rw [hs]
        rw [hcl] at n2
        simp -dsimp (maxSteps := 2000000) only [Fa.F94, rdSA_of q0, rdSN_of q0, rdSC_of q0, q0, hxl, e0, rdI_of t0, t0, hgq, f0, k0, e1, ← hAq, rdSA_of b0, rdSN_of b0, rdSC_of b0, b0, rdI_of c0, c0, d0, g0, hwl1, hgl, rdSA_of b2, rdSN_of b2, rdSC_of b2, b2, rdI_of c1, c1, hwl2, hgl2, e2, rdB_of n2, n2, hxl2, Int.toNat_natCast, Nat.add_zero, Nat.zero_add, undef, tu, uf, ul, ur, VC.Now, VC.vc, VC.lib, VC.mapN_drewN, VC.mapB_drewN, VC.regQ, VC.loopK, VC.reg, VC.opP, VC.opS, VC.opZ, VC.nomulB, VC.pv, VC.thenF, VC.blkF, VC.retF, VC.resV, VC.oneV, VC.evo, VC.bin, VC.binI, VC.cmpI, VC.arithI, VC.ldv, VC.slv, VC.pickP, VC.holds, VC.chainOf, VC.look, VC.junk, VC.put, VC.eff, VC.callee, VC.pureB, VC.rdK, VC.rdKs, VC.okKs, VC.eqKs, VC.fillL, VC.putL, VC.stW, VC.stOK, VC.mixF, VC.setAll, Nat.reduceAdd, Nat.reduceSub, Nat.reduceMul, if_true, if_false, ↓reduceIte, forall_const, implies_true, reduceCtorEq, ne_eq, Nat.reduceBNe, Nat.reduceBEq, IntKind.signed, Nat.reduceEqDiff, Nat.reduceLeDiff, Nat.reduceLT, eq_self, Int.reduceEq, Int.reduceLT, Int.reduceLE, Int.reduceAdd, Int.reduceSub, VC.regC_nil, VC.regC_cons, VC.regCK_eq, VC.callQ, VC.tailQ, VC.goCall, VC.chStep]
        exact ⟨by omega, by omega, ⟨by omega, by omega⟩, hfit, ⟨by omega, by omega⟩, ⟨by omega, by omega⟩, _, st2⟩
      | false =>
        have hs : ptake n i j p = (0, { p with que := upd p.que (j * n + i) q, money := upd p.money i (p.money i + x), nts := upd p.nts (j * n + i) (p.nts (j * n + i) ++ [x]) }) := by
          unfold ptake
          simp only [hq]
          rw [if_neg hx, if_neg (fun hh => hh.elim ho (fun h2 => by rw [hcl] at h2; cases h2))]
        rw [hs]
        rw [hcl] at n2
        simp -dsimp (maxSteps := 2000000) only [Fa.F94, rdSA_of q0, rdSN_of q0, rdSC_of q0, q0, hxl, e0, rdI_of t0, t0, hgq, f0, k0, e1, ← hAq, rdSA_of b0, rdSN_of b0, rdSC_of b0, b0, rdI_of c0, c0, d0, g0, hwl1, hgl, rdSA_of b2, rdSN_of b2, rdSC_of b2, b2, rdI_of c1, c1, hwl2, hgl2, e2, rdB_of n2, n2, rdSA_of n1, rdSN_of n1, rdSC_of n1, n1, hxl2, Int.toNat_natCast, Nat.add_zero, Nat.zero_add, undef, tu, uf, ul, ur, VC.Now, VC.vc, VC.lib, VC.mapN_drewN, VC.mapB_drewN, VC.regQ, VC.loopK, VC.reg, VC.opP, VC.opS, VC.opZ, VC.nomulB, VC.pv, VC.thenF, VC.blkF, VC.retF, VC.resV, VC.oneV, VC.evo, VC.bin, VC.binI, VC.cmpI, VC.arithI, VC.ldv, VC.slv, VC.pickP, VC.holds, VC.chainOf, VC.look, VC.junk, VC.put, VC.eff, VC.callee, VC.pureB, VC.rdK, VC.rdKs, VC.okKs, VC.eqKs, VC.fillL, VC.putL, VC.stW, VC.stOK, VC.mixF, VC.setAll, Nat.reduceAdd, Nat.reduceSub, Nat.reduceMul, if_true, if_false, ↓reduceIte, forall_const, implies_true, reduceCtorEq, ne_eq, Nat.reduceBNe, Nat.reduceBEq, IntKind.signed, Nat.reduceEqDiff, Nat.reduceLeDiff, Nat.reduceLT, eq_self, Int.reduceEq, Int.reduceLT, Int.reduceLE, Int.reduceAdd, Int.reduceSub, VC.regC_nil, VC.regC_cons, VC.regCK_eq, VC.callQ, VC.tailQ, VC.goCall, VC.chStep]
        refine ⟨by omega, by omega, ⟨by omega, by omega⟩, hfit, ⟨by omega, by omega⟩, ⟨by omega, by omega⟩, fun u => ?_⟩
        clear b0 hwl1 c0 d0 g0 hgl b2 hwl2 c1 hgl2 n1 n2 hR hR2 bw1 bw2 hh1 q0 f0 k0 t0 bx2'
        obtain ⟨w6, hw6⟩ : ∃ w6, w6 = (w.setCell ⟨a.xb (j * n + i), 0, none⟩ (Value.slice Aq (L - Int.toNat 1) (cap - Int.toNat 1))).setCell ⟨a.gp, i * 2 + 0, none⟩ (iV (p.money i + x)) := ⟨_, rfl⟩
        rw [← hw6] at st2 hh2 hN bx2
        rw [Nat.add_zero] at hw6
        rw [← hw6] at hxl2 ⊢
        have hN' : OwnK w6 0 3 1 (p.nts (j * n + i)).length (.slice An (p.nts (j * n + i)).length cn) ((p.nts (j * n + i)).map iV) := by rw [← en]; exact hN
        refine OPW_appK (v := .slice An (p.nts (j * n + i)).length cn) rfl Fa.apI23 rfl rfl rfl (by simp [Value.oneCell']) hN' (Nat.zero_le _) (by omega) (by decide) fun v8 w8 ho8 hg8 hst8 => ?_
        have ho8' : OwnK w8 0 3 1 (p.nts (j * n + i) ++ [x]).length v8 ((p.nts (j * n + i) ++ [x]).map iV) := by rw [List.length_append, List.map_append]; exact ho8
        obtain ⟨A8, c8, e8, _⟩ := id ho8
        rw [← en] at hg8 hst8
        obtain ⟨⟨g1, g2⟩, st8⟩ := NObs.noted hh2 ht hd (xs := p.nts (j * n + i) ++ [x]) ho8' hg8 hst8
        have hxl8 : a.xb (j * n + i) < w8.heap.size := by have := hg8.size; omega
        subst e8
        rw [VC.Now, VC.seqK_eq]
        simp -dsimp (maxSteps := 2000000) only [Fa.F94, g1, g2, hxl8, VC.Now, VC.vc, VC.lib, VC.mapN_drewN, VC.mapB_drewN, VC.regQ, VC.loopK, VC.reg, VC.opP, VC.opS, VC.opZ, VC.nomulB, VC.pv, VC.thenF, VC.blkF, VC.retF, VC.resV, VC.oneV, VC.evo, VC.bin, VC.binI, VC.cmpI, VC.arithI, VC.ldv, VC.slv, VC.pickP, VC.holds, VC.chainOf, VC.look, VC.junk, VC.put, VC.eff, VC.callee, VC.pureB, VC.rdK, VC.rdKs, VC.okKs, VC.eqKs, VC.fillL, VC.putL, VC.stW, VC.stOK, VC.mixF, VC.setAll, Nat.reduceAdd, Nat.reduceSub, Nat.reduceMul, if_true, if_false, ↓reduceIte, forall_const, implies_true, reduceCtorEq, ne_eq, Nat.reduceBNe, Nat.reduceBEq, IntKind.signed, Nat.reduceEqDiff, Nat.reduceLeDiff, Nat.reduceLT, eq_self, Int.reduceEq, Int.reduceLT, Int.reduceLE, Int.reduceAdd, Int.reduceSub, VC.regC_nil, VC.regC_cons, VC.regCK_eq, VC.callQ, VC.tailQ, VC.goCall, VC.chStep]
        exact ⟨_, st2.trans st8⟩
end
end Go.Proofs.Ytelfmhiaafkimaa
