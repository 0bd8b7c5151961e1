/- A picture of what moves, the document's: one way's row is told. -/
import Derived.Test.YtelfmhiaafkimaaSnapD8
namespace Go.Proofs.Ytelfmhiaafkimaa
open Go Go.RowKit Go.VC
set_option linter.unusedSimpArgs false
set_option linter.unusedVariables false
theorem row_done {n t f b rb ob gm cm go co gl lb : Nat} {s : SnS} {q rv : Nat → Value} {vc v5 lv : Value} {codes : List Int} {dn : Bool} {ln : Lin} {bc : List Value} {w : World} (hb : b < n) (hln : ln = s.ln f b)
    (hd : doneK n s (f * n + b + 1) = dn)
    (h : Hp rb ([oOwn 3 1 (notedL (s.own b) (lk ln ln.come)).length lv ((notedL (s.own b) (lk ln ln.come)).map iV), oBox lb bc, oOwn 23 1 (f * n + b + 1) v5 ((List.range (f * n + b)).map rv ++ [lv]), oOwn 24 1 t vc (codes.map (Value.int .i64)), oBox rb z5] ++ (DObs n ⟨ob, gm, cm, go, co, gl⟩ (dOf n s) q vc v5 dn ++ fam (f * n + b) (rowF n s rv))) w) :
    Hp rb (LD n t (f * n + b + 1) rb ⟨ob, gm, cm, go, co, gl⟩ s q (upd rv (f * n + b) lv) vc v5 codes (doneK n s (f * n + b + 1))) w := by
  rw [hd]
  have e1 : (List.range (f * n + b + 1)).map (upd rv (f * n + b) lv) = (List.range (f * n + b)).map rv ++ [lv] := by
    rw [List.range_succ, List.map_append]
    refine congr (congrArg _ (List.map_congr_left fun i hi => upd_other ?_)) (by show [_] = _; rw [upd_same])
    have : i < f * n + b := by simpa using hi
    omega
  have e2 : fam (f * n + b + 1) (rowF n s (upd rv (f * n + b) lv)) = fam (f * n + b) (rowF n s rv) ++ [oOwn 3 1 (notedL (s.own b) (lk ln ln.come)).length lv ((notedL (s.own b) (lk ln ln.come)).map iV)] := by
    rw [fam_succ]
    refine congr (congrArg _ (fam_congr fun i hi => ?_)) ?_
    · show oOwn _ _ _ (upd rv (f * n + b) lv i) _ = _
      rw [upd_other (by omega)]
    · have er : rowS n s (f * n + b) = notedL (s.own b) (lk ln ln.come) := by
        unfold rowS
        rw [(idx_div hb).1, (idx_div hb).2, ← hln]
        rfl
      show [oOwn _ _ (rowS n s (f * n + b)).length (upd rv (f * n + b) lv (f * n + b)) ((rowS n s (f * n + b)).map iV)] = _
      rw [upd_same, er]
  unfold LD
  rw [e1, e2]
  have h2 := h.sub (L' := oOwn 3 1 (notedL (s.own b) (lk ln ln.come)).length lv ((notedL (s.own b) (lk ln ln.come)).map iV) :: ([oOwn 23 1 (f * n + b + 1) v5 ((List.range (f * n + b)).map rv ++ [lv]), oOwn 24 1 t vc (codes.map (Value.int .i64)), oBox rb z5] ++ (DObs n ⟨ob, gm, cm, go, co, gl⟩ (dOf n s) q vc v5 dn ++ fam (f * n + b) (rowF n s rv)))) (List.Sublist.cons_cons _ (List.sublist_cons_self _ _))
  refine h2.perm ?_
  exact (List.perm_append_comm (l₁ := [_])).trans (List.Perm.of_eq (by simp [List.append_assoc, DObs]))
set_option maxRecDepth 8000 in
set_option maxHeartbeats 8000000 in
theorem snapD_row : snapDBut2.1.1 := by
  unfold snapDBut2
  refine ⟨?_, trivial⟩
  intro A c0 A2 cap m g w hm wa rb hrb wb ob w4 gl y1 u2 y2 n h1 hn hnn36 gm cm go co mm u3 z1 t q vc hlen codes hcl s hinv e8 wy Q3 m2 u4 z2 f z3 z4 hfm hf e9 Q4 m3 u5 wx b bv rv hbm hb e10 ht hO As cs es ej1 ej2 hfn w1 w2' w5 lb hself ln hlt hlok hln mk hmk hmk0 m4 u6 wr lv hBx bl l1 hlbl hkm hH hk e11
  obtain ⟨Ab, cb, rfl, _⟩ := id (hH.get 2 rfl : OwnK wr 0 23 1 (f * n + b) bv _)
  obtain ⟨Al, cl2, rfl, _⟩ := id (hH.get 0 rfl : OwnK wr 0 3 1 (notedL (s.own b) (lk ln ln.come)).length lv _)
  have bo : Box wr ob [vc, .slice (some ⟨gm, 0, none⟩) n cm, .slice (some ⟨go, 0, none⟩) n co, .slice Ab (f * n + b) cb, .bool (doneK n s (f * n + b))] := hH.get 5 rfl
  have o3 := bo.at (i := 3) rfl
  have hol := bo.1
  simp -dsimp (maxSteps := 2000000) only [Fa.F25, e11, rdI_of l1, l1, hlbl, rdSA_of o3, rdSN_of o3, rdSC_of o3, o3, hol, VC.Now, VC.vc, VC.lib, VC.mapN_drewN, VC.mapB_drewN, VC.regQ, VC.loopK, VC.reg, VC.opP, VC.opS, VC.opZ, VC.nomulB, VC.pv, VC.thenF, VC.blkF, VC.retF, VC.resV, VC.oneV, VC.evo, VC.bin, VC.binI, VC.cmpI, VC.arithI, VC.ldv, VC.slv, VC.pickP, VC.holds, VC.chainOf, VC.look, VC.junk, VC.put, VC.eff, VC.callee, VC.pureB, VC.rdK, VC.rdKs, VC.okKs, VC.eqKs, VC.fillL, VC.putL, VC.stW, VC.stOK, VC.mixF, VC.setAll, Nat.reduceAdd, Nat.reduceSub, Nat.reduceMul, if_true, if_false, ↓reduceIte, forall_const, implies_true, reduceCtorEq, ne_eq, Nat.reduceBNe, Nat.reduceBEq, IntKind.signed, Nat.reduceEqDiff, Nat.reduceLeDiff, Nat.reduceLT, eq_self, Int.reduceEq, Int.reduceLT, Int.reduceLE, Int.reduceAdd, Int.reduceSub, VC.regC_nil, VC.regC_cons, VC.regCK_eq, VC.callQ, VC.tailQ, VC.goCall, VC.chStep]
  refine OPW_appK (v := .slice Ab (f * n + b) cb) (us := [.slice Al (notedL (s.own b) (lk ln ln.come)).length cl2]) rfl Fa.apI54 rfl rfl rfl (by simp [Value.oneCell']) (hH.get 2 rfl) (Nat.zero_le _) (by omega) (by decide) fun v5 w6 ho5 hg5 hst5 => ?_
  obtain ⟨⟨r1, r2⟩, st6⟩ := hH.growField 5 2 rfl rfl (by decide) ho5 hg5 hst5 3 (by show 3 < 5; omega)
  obtain ⟨A5, c5, rfl, _⟩ := id ho5
  have hl5 : ob < w6.heap.size := by simpa using (st6.hp.get 5 rfl : Box _ ob _).1
  rw [VC.Now, VC.seqK_eq]
  have hH7 := st6.hp
  have b7 : Box (w6.setCell ⟨ob, 3, none⟩ (.slice A5 (f * n + b + 1) c5)) ob [vc, .slice (some ⟨gm, 0, none⟩) n cm, .slice (some ⟨go, 0, none⟩) n co, .slice A5 (f * n + b + 1) c5, .bool (doneK n s (f * n + b))] := hH7.get 5 rfl
  have p2 := b7.at (i := 2) rfl
  have p4 := b7.at (i := 4) rfl
  have s4 := b7.soft (i := 4) (by show 4 < 5; omega)
  have k4 : ((w6.setCell ⟨ob, 3, none⟩ (.slice A5 (f * n + b + 1) c5)).cell? ⟨ob, 4, none⟩).isSome = true := by rw [p4]; rfl
  have ho7 := b7.1
  have bg : Box (w6.setCell ⟨ob, 3, none⟩ (.slice A5 (f * n + b + 1) c5)) go ((List.range n).map fun i => iV (s.own i)) := hH7.get 7 rfl
  have c1 : (w6.setCell ⟨ob, 3, none⟩ (.slice A5 (f * n + b + 1) c5)).cell? ⟨go, b, none⟩ = some (iV (s.own b)) := bg.at (i := b) (by simp [hb])
  have hgl' := bg.1
  have hdk : doneK n s (f * n + b + 1) = (doneK n s (f * n + b) && (mk ln.come && decide (0 ≤ s.own b))) := by
    show (doneK n s (f * n + b) && (markedE n s (f * n + b) && decide (0 ≤ s.own ((f * n + b) % n)))) = _
    unfold markedE
    rw [(idx_div hb).1, (idx_div hb).2, ← hln, hmk, lk_self]
    congr 3
    rw [Bool.eq_iff_iff, decide_eq_true_eq, decide_eq_true_eq]; omega
  have st7 := hH7.setBox 5 rfl 4 (.bool (doneK n s (f * n + b + 1)))
  clear hmk hmk0
  cases hd : doneK n s (f * n + b) with
  | false =>
    rw [hd] at p4
    have hdn : doneK n s (f * n + b + 1) = false := by rw [hdk, hd]; rfl
    rw [hdn] at st7
    simp -dsimp (maxSteps := 2000000) only [Fa.F25, r1, r2, hl5, rdB_of p4, p4, ho7, s4, k4, undef, tu, uf, ul, ur, VC.Now, VC.vc, VC.lib, VC.mapN_drewN, VC.mapB_drewN, VC.regQ, VC.loopK, VC.reg, VC.opP, VC.opS, VC.opZ, VC.nomulB, VC.pv, VC.thenF, VC.blkF, VC.retF, VC.resV, VC.oneV, VC.evo, VC.bin, VC.binI, VC.cmpI, VC.arithI, VC.ldv, VC.slv, VC.pickP, VC.holds, VC.chainOf, VC.look, VC.junk, VC.put, VC.eff, VC.callee, VC.pureB, VC.rdK, VC.rdKs, VC.okKs, VC.eqKs, VC.fillL, VC.putL, VC.stW, VC.stOK, VC.mixF, VC.setAll, Nat.reduceAdd, Nat.reduceSub, Nat.reduceMul, if_true, if_false, ↓reduceIte, forall_const, implies_true, reduceCtorEq, ne_eq, Nat.reduceBNe, Nat.reduceBEq, IntKind.signed, Nat.reduceEqDiff, Nat.reduceLeDiff, Nat.reduceLT, eq_self, Int.reduceEq, Int.reduceLT, Int.reduceLE, Int.reduceAdd, Int.reduceSub, VC.regC_nil, VC.regC_cons, VC.regCK_eq, VC.callQ, VC.tailQ, VC.goCall, VC.chStep]
    exact ⟨fits_i64_nat (by omega), SAME.intro (by kernel_rfl), m3 - 1, by omega, b + 1, _, upd rv (f * n + b) (.slice Al (notedL (s.own b) (lk ln ln.come)).length cl2), by omega, rfl, hBx.trans ((st6.trans st7).below hH), row_done hb hln hdn st7.hp⟩
  | true =>
    rw [hd] at p4
    cases hmb : mk ln.come with
    | false =>
      have hdn : doneK n s (f * n + b + 1) = false := by rw [hdk, hd, hmb]; rfl
      rw [hdn] at st7
      simp -dsimp (maxSteps := 2000000) only [Fa.F25, r1, r2, hl5, rdB_of p4, p4, ho7, s4, k4, hmb, undef, tu, uf, ul, ur, VC.Now, VC.vc, VC.lib, VC.mapN_drewN, VC.mapB_drewN, VC.regQ, VC.loopK, VC.reg, VC.opP, VC.opS, VC.opZ, VC.nomulB, VC.pv, VC.thenF, VC.blkF, VC.retF, VC.resV, VC.oneV, VC.evo, VC.bin, VC.binI, VC.cmpI, VC.arithI, VC.ldv, VC.slv, VC.pickP, VC.holds, VC.chainOf, VC.look, VC.junk, VC.put, VC.eff, VC.callee, VC.pureB, VC.rdK, VC.rdKs, VC.okKs, VC.eqKs, VC.fillL, VC.putL, VC.stW, VC.stOK, VC.mixF, VC.setAll, Nat.reduceAdd, Nat.reduceSub, Nat.reduceMul, if_true, if_false, ↓reduceIte, forall_const, implies_true, reduceCtorEq, ne_eq, Nat.reduceBNe, Nat.reduceBEq, IntKind.signed, Nat.reduceEqDiff, Nat.reduceLeDiff, Nat.reduceLT, eq_self, Int.reduceEq, Int.reduceLT, Int.reduceLE, Int.reduceAdd, Int.reduceSub, VC.regC_nil, VC.regC_cons, VC.regCK_eq, VC.callQ, VC.tailQ, VC.goCall, VC.chStep]
      exact ⟨fits_i64_nat (by omega), SAME.intro (by kernel_rfl), m3 - 1, by omega, b + 1, _, upd rv (f * n + b) (.slice Al (notedL (s.own b) (lk ln ln.come)).length cl2), by omega, rfl, hBx.trans ((st6.trans st7).below hH), row_done hb hln hdn st7.hp⟩
    | true =>
      have hdn : doneK n s (f * n + b + 1) = decide (0 ≤ s.own b) := by rw [hdk, hd, hmb]; rfl
      rw [hdn] at st7
      simp -dsimp (maxSteps := 2000000) only [Fa.F25, r1, r2, hl5, rdB_of p4, p4, ho7, s4, k4, hmb, rdSA_of p2, rdSN_of p2, rdSC_of p2, p2, rdI_of c1, c1, hgl', Int.toNat_natCast, Nat.zero_add, undef, tu, uf, ul, ur, VC.Now, VC.vc, VC.lib, VC.mapN_drewN, VC.mapB_drewN, VC.regQ, VC.loopK, VC.reg, VC.opP, VC.opS, VC.opZ, VC.nomulB, VC.pv, VC.thenF, VC.blkF, VC.retF, VC.resV, VC.oneV, VC.evo, VC.bin, VC.binI, VC.cmpI, VC.arithI, VC.ldv, VC.slv, VC.pickP, VC.holds, VC.chainOf, VC.look, VC.junk, VC.put, VC.eff, VC.callee, VC.pureB, VC.rdK, VC.rdKs, VC.okKs, VC.eqKs, VC.fillL, VC.putL, VC.stW, VC.stOK, VC.mixF, VC.setAll, Nat.reduceAdd, Nat.reduceSub, Nat.reduceMul, if_true, if_false, ↓reduceIte, forall_const, implies_true, reduceCtorEq, ne_eq, Nat.reduceBNe, Nat.reduceBEq, IntKind.signed, Nat.reduceEqDiff, Nat.reduceLeDiff, Nat.reduceLT, eq_self, Int.reduceEq, Int.reduceLT, Int.reduceLE, Int.reduceAdd, Int.reduceSub, VC.regC_nil, VC.regC_cons, VC.regCK_eq, VC.callQ, VC.tailQ, VC.goCall, VC.chStep]
      refine ⟨⟨by omega, by omega⟩, ?_⟩
      exact ⟨fits_i64_nat (by omega), SAME.intro (by kernel_rfl), m3 - 1, by omega, b + 1, _, upd rv (f * n + b) (.slice Al (notedL (s.own b) (lk ln ln.come)).length cl2), by omega, rfl, hBx.trans ((st6.trans st7).below hH), row_done hb hln hdn st7.hp⟩
end Go.Proofs.Ytelfmhiaafkimaa
