/- A picture of what moves, the document's: what lies between. -/
import Derived.Test.YtelfmhiaafkimaaSnapD7
namespace Go.Proofs.Ytelfmhiaafkimaa
open Go Go.RowKit Go.VC
set_option linter.unusedSimpArgs false
set_option linter.unusedVariables false
theorem noted_le {o : Int} {l : Lin} : (notedL o l).length ≤ (openL l).length := by
  unfold notedL
  by_cases h : 0 ≤ o
  · rw [if_pos h]; exact (List.drop_sublist _ _).length_le
  · rw [if_neg h]; exact Nat.zero_le _
set_option maxRecDepth 8000 in
set_option maxHeartbeats 8000000 in
noncomputable def snapDBut2 : { P : Prop × Prop // P.1 ∧ P.2 → snapDBut.1 } := by
  refine ⟨(?P3 ∧ True, ?P4 ∧ True), fun HH => ?body⟩
  case body =>
  unfold snapDBut
  refine ⟨?_, trivial⟩
  intro A c0 A2 cap m g w hm wa rb hrb wb ob w4 gl y1 u2 y2 n h1 hn hnn36 gm cm go co mm u3 wx t q vc hBx hH hinv hlen
  have hcl : ((List.range t).map (ncode n m g)).length = t := by simp
  have hce : ncodes n m g t = ((List.range t).map (ncode n m g)).map (Value.int .i64) := by unfold ncodes; rw [List.map_map]; rfl
  rw [hce] at hH
  generalize (List.range t).map (ncode n m g) = codes at *
  generalize nst n m g t = s at *
  have e8 : ((t : Int) < t) = False := eq_false (by omega)
  have b0 : Box wx ob [vc, .slice (some ⟨gm, 0, none⟩) n cm, .slice (some ⟨go, 0, none⟩) n co, nilS, .bool false] := hH.get 2 rfl
  have f4 := b0.soft (i := 4) (by show 4 < 5; omega)
  have k4 : (wx.cell? ⟨ob, 4, none⟩).isSome = true := by rw [b0.at (i := 4) rfl]; rfl
  have hol := b0.1
  have st1 := hH.setBox 2 rfl 4 (.bool true)
  simp -dsimp (maxSteps := 2000000) only [Fa.F25, e8, hol, f4, k4, VC.Now, VC.vc, VC.lib, VC.mapN_drewN, VC.mapB_drewN, VC.regQ, VC.loopK, VC.reg, VC.opP, VC.opS, VC.opZ, VC.nomulB, VC.pv, VC.thenF, VC.blkF, VC.retF, VC.resV, VC.oneV, VC.evo, VC.bin, VC.binI, VC.cmpI, VC.arithI, VC.ldv, VC.slv, VC.pickP, VC.holds, VC.chainOf, VC.look, VC.junk, VC.put, VC.eff, VC.callee, VC.pureB, VC.rdK, VC.rdKs, VC.okKs, VC.eqKs, VC.fillL, VC.putL, VC.stW, VC.stOK, VC.mixF, VC.setAll, Nat.reduceAdd, Nat.reduceSub, Nat.reduceMul, if_true, if_false, ↓reduceIte, forall_const, implies_true, reduceCtorEq, ne_eq, Nat.reduceBNe, Nat.reduceBEq, IntKind.signed, Nat.reduceEqDiff, Nat.reduceLeDiff, Nat.reduceLT, eq_self, Int.reduceEq, Int.reduceLT, Int.reduceLE, Int.reduceAdd, Int.reduceSub, VC.regC_nil, VC.regC_cons, VC.regCK_eq, VC.callQ, VC.tailQ, VC.goCall, VC.chStep]
  have hH1 := st1.hp
  have hB1 := hBx.trans (st1.below hH)
  generalize wx.setCell ⟨ob, 4, none⟩ (.bool true) = wy at hH1 hB1 ⊢
  clear st1 hH hBx b0 f4 k4 hol hce
  have hH2 : Hp rb (LD n t 0 rb ⟨ob, gm, cm, go, co, gl⟩ s q (fun _ => nilS) vc nilS codes (doneK n s 0)) wy := by
    have h9 := (hH1.st_add (o := oOwn 23 1 0 nilS []) (Below.refl _ _) (OwnK.nil _ _ _ _) (fun g hg => by cases hg)).hp
    show Hp rb ([oOwn 23 1 0 nilS [], oOwn 24 1 t vc (codes.map (Value.int .i64)), oBox rb z5] ++ (DObs n ⟨ob, gm, cm, go, co, gl⟩ (dOf n s) q vc nilS true ++ [])) wy
    rw [List.append_nil]
    exact h9
  refine wp_plain fun Q3 hQ3 => ?_
  refine loop_slots Fa.mix [12] [13, 14, 15, 16, 17, 60, 61, 62, 63, 64, 65, 66, 67, 68, 69, 70, 71, 72, 73, 74, 75, 76, 77, 78, 79, 80, 81, 82, 83, 84, 85, 86, 87, 88, 89, 90, 91, 92, 93, 94, 95, 96, 97, 98, 99, 100, 101, 102, 103, 104, 105, 106, 107, 108, 109, 110, 111, 112, 113, 114, 115, 116, 117, 118, 119, 120, 121, 122, 123, 124, 125, 126, 127, 128, 129, 130, 131, 132, 133, 134, 135, 136, 137, 138, 139, 140, 141, 142, 143, 144] (fun mm vs wx => ∃ (f : Nat) (bv : Value) (rv : Nat → Value), f + mm = n ∧ vs = [.int .i64 f] ∧ Below rb w wx ∧ Hp rb (LD n t (f * n) rb ⟨ob, gm, cm, go, co, gl⟩ s q rv vc bv codes (doneK n s (f * n))) wx) n (by kernel_rfl) rfl
    ⟨0, nilS, fun _ => nilS, by omega, rfl, hB1, by rw [Nat.zero_mul]; exact hH2⟩ ?_
  clear hH2 hB1 hH1
  rintro m2 vs u4 wx ⟨f, bv, rv, hfm, rfl, hBx, hH⟩
  by_cases hf : f < n
  · have e9 : ((f : Int) < n) = True := eq_true (by omega)
    clear hQ3
    simp -dsimp (maxSteps := 2000000) only [Fa.F25, e9, VC.Now, VC.vc, VC.lib, VC.mapN_drewN, VC.mapB_drewN, VC.regQ, VC.loopK, VC.reg, VC.opP, VC.opS, VC.opZ, VC.nomulB, VC.pv, VC.thenF, VC.blkF, VC.retF, VC.resV, VC.oneV, VC.evo, VC.bin, VC.binI, VC.cmpI, VC.arithI, VC.ldv, VC.slv, VC.pickP, VC.holds, VC.chainOf, VC.look, VC.junk, VC.put, VC.eff, VC.callee, VC.pureB, VC.rdK, VC.rdKs, VC.okKs, VC.eqKs, VC.fillL, VC.putL, VC.stW, VC.stOK, VC.mixF, VC.setAll, Nat.reduceAdd, Nat.reduceSub, Nat.reduceMul, if_true, if_false, ↓reduceIte, forall_const, implies_true, reduceCtorEq, ne_eq, Nat.reduceBNe, Nat.reduceBEq, IntKind.signed, Nat.reduceEqDiff, Nat.reduceLeDiff, Nat.reduceLT, eq_self, Int.reduceEq, Int.reduceLT, Int.reduceLE, Int.reduceAdd, Int.reduceSub, VC.regC_nil, VC.regC_cons, VC.regCK_eq, VC.callQ, VC.tailQ, VC.goCall, VC.chStep]
    refine wp_plain fun Q4 hQ4 => ?_
    refine loop_slots Fa.mix [13] [14, 15, 16, 17, 65, 66, 67, 68, 69, 70, 71, 72, 73, 74, 75, 76, 77, 78, 79, 80, 81, 82, 83, 84, 85, 86, 87, 88, 89, 90, 91, 92, 93, 94, 95, 96, 97, 98, 99, 100, 101, 102, 103, 104, 105, 106, 107, 108, 109, 110, 111, 112, 113, 114, 115, 116, 117, 118, 119, 120, 121, 122, 123, 124, 125, 126, 127, 128, 129, 130, 131, 132, 133, 134, 135, 136, 137, 138, 139, 140, 141, 142, 143, 144] (fun mm vs wx => ∃ (b : Nat) (bv : Value) (rv : Nat → Value), b + mm = n ∧ vs = [.int .i64 b] ∧ Below rb w wx ∧ Hp rb (LD n t (f * n + b) rb ⟨ob, gm, cm, go, co, gl⟩ s q rv vc bv codes (doneK n s (f * n + b))) wx) n (by kernel_rfl) rfl
      ⟨0, bv, rv, by omega, rfl, hBx, hH⟩ ?_
    clear hH hBx
    rintro m3 vs u5 wx ⟨b, bv, rv, hbm, rfl, hBx, hH⟩
    by_cases hb : b < n
    · have e10 : ((b : Int) < n) = True := eq_true (by omega)
      clear hQ4
      have ht := idx_lt hf hb
      have hRc : Recs wx gl (n * n) 3 (linL (dOf n s).lt q) := hH.get 6 rfl
      have d0 := hRc.at ht (j := 0) (by omega) rfl
      have d1 := hRc.at ht (j := 1) (by omega) rfl
      have d2 := hRc.at ht (j := 2) (by omega) rfl
      have hll := hRc.1
      have hlt : (dOf n s).lt (f * n + b) = s.ln f b := by show s.ln ((f * n + b) / n) ((f * n + b) % n) = _; rw [(idx_div hb).1, (idx_div hb).2]
      have hO := DObs.get (hp_right hH).left ht
      have hO : OwnK wx 0 3 1 ((dOf n s).lt (f * n + b)).sent.length (q (f * n + b)) (((dOf n s).lt (f * n + b)).sent.map iV) := hO
      rw [hlt] at hO d1 d2
      obtain ⟨As, cs, es, _⟩ := id hO
      rw [es] at d0
      simp only [Nat.add_zero] at d0
      have ej1 : (f : Int) * n = ((f * n : Nat) : Int) := by simp
      have ej2 : ((f * n : Nat) : Int) + (b : Int) = ((f * n + b : Nat) : Int) := by simp
      have hfn : f * n ≤ n * n := Nat.mul_le_mul_right n (Nat.le_of_lt hf)
      have w1 : IntKind.i64.wrap ((f * n : Nat) : Int) = ((f * n : Nat) : Int) := fits_wrap (fits_i64 (by omega) (by omega))
      have w2' : IntKind.i64.wrap ((f * n + b : Nat) : Int) = ((f * n + b : Nat) : Int) := fits_wrap (fits_i64 (by omega) (by omega))
      simp -dsimp (maxSteps := 2000000) only [Fa.F25, e10, ej1, ej2, w1, w2', rdSA_of d0, rdSN_of d0, rdSC_of d0, d0, rdI_of d1, d1, rdI_of d2, d2, hll, Int.toNat_natCast, Nat.zero_add, VC.Now, VC.vc, VC.lib, VC.mapN_drewN, VC.mapB_drewN, VC.regQ, VC.loopK, VC.reg, VC.opP, VC.opS, VC.opZ, VC.nomulB, VC.pv, VC.thenF, VC.blkF, VC.retF, VC.resV, VC.oneV, VC.evo, VC.bin, VC.binI, VC.cmpI, VC.arithI, VC.ldv, VC.slv, VC.pickP, VC.holds, VC.chainOf, VC.look, VC.junk, VC.put, VC.eff, VC.callee, VC.pureB, VC.rdK, VC.rdKs, VC.okKs, VC.eqKs, VC.fillL, VC.putL, VC.mixF, VC.setAll, Nat.reduceAdd, Nat.reduceSub, Nat.reduceMul, if_true, if_false, ↓reduceIte, forall_const, implies_true, reduceCtorEq, ne_eq, Nat.reduceBNe, Nat.reduceBEq, IntKind.signed, Nat.reduceEqDiff, Nat.reduceLeDiff, Nat.reduceLT, eq_self, Int.reduceEq, Int.reduceLT, Int.reduceLE, Int.reduceAdd, Int.reduceSub, VC.regC_nil, VC.regC_cons, VC.regCK_eq, VC.callQ, VC.tailQ, VC.goCall, VC.chStep]
      obtain ⟨f1, f2, f3⟩ := boxMade wx [nilS, iV 0, iV 0] [.slice As (s.ln f b).sent.length cs, iV ((s.ln f b).come : Nat), iV ((s.ln f b).noted : Nat)] 162 rfl (by intro v hv; simp at hv; rcases hv with rfl | rfl | rfl <;> rfl)
      refine ⟨fits_i64 (by omega) (by omega), fits_i64 (by omega) (by omega), ⟨by omega, by omega⟩, f1, ?_⟩
      clear f1
      have hHl := ((hH.st_add (o := oBox wx.heap.size [.slice As (s.ln f b).sent.length cs, iV ((s.ln f b).come : Nat), iV ((s.ln f b).noted : Nat)]) f3 f2 (fun g hg => by cases hg; exact Nat.le_refl _)).hp.st_add (o := oOwn 3 1 0 nilS []) (Below.refl _ _) (OwnK.nil _ _ _ _) (fun g hg => by cases hg)).hp
      have hBl := hBx.trans (f3.mono hH.base)
      generalize stW (wx.alloc (.cells #[nilS, iV 0, iV 0] 162)) ⟨wx.heap.size, 0, none⟩ 0 [.slice As (s.ln f b).sent.length cs, iV ((s.ln f b).come : Nat), iV ((s.ln f b).noted : Nat)] = w5 at hHl hBl ⊢
      clear f2 f3 hRc d0 d1 d2 hll hBx hH hO
      generalize wx.heap.size = lb at hHl ⊢
      have hlok := hinv.lok f b
      have hself := hinv.self f
      obtain ⟨ln, hln⟩ : ∃ ln, ln = s.ln f b := ⟨_, rfl⟩
      rw [← hln] at hHl hlok hlt ⊢
      obtain ⟨mk, hmk⟩ : ∃ mk : Nat → Bool, ∀ k, mk k = (decide ((f : Int) = (b : Int)) || closB (lk ln k)) := ⟨_, fun _ => rfl⟩
      have hmk0 : decide ((f : Int) = (b : Int)) = mk 0 := by rw [hmk, clos_start, Bool.or_false]
      rw [hmk0]
      refine wp_plain fun Q5 hQ5 => ?_
      refine loop_slots Fa.mix [17, 15, 16] [81, 82, 83, 84, 85, 86, 87, 88, 89, 90, 91, 92, 93, 94, 95, 96, 97, 98, 99, 100, 101, 102, 103, 104, 105, 106, 107, 108, 109, 110, 111, 112, 113, 114, 115, 116, 117, 118, 119, 120, 121, 122, 123, 124] (fun mm vs wr => ∃ (k : Nat) (lv : Value), k + mm = ln.come ∧ vs = [.int .i64 k, lv, .bool (mk k)] ∧ Below rb w wr ∧ Hp rb ([oOwn 3 1 (notedL (s.own b) (lk ln k)).length lv ((notedL (s.own b) (lk ln k)).map iV), oBox lb [.slice As ln.sent.length cs, iV (ln.come : Nat), iV (ln.noted : Nat)]] ++ LD n t (f * n + b) rb ⟨ob, gm, cm, go, co, gl⟩ s q rv vc bv codes (doneK n s (f * n + b))) wr) ln.come (by kernel_rfl) rfl
        ⟨0, nilS, by omega, rfl, hBl, by rw [noted_start]; exact hHl⟩ ?_
      clear hHl hBl
      rintro m4 vs u6 wr ⟨k, lv, hkm, rfl, hBx, hH⟩
      have bl : Box wr lb [.slice As ln.sent.length cs, iV (ln.come : Nat), iV (ln.noted : Nat)] := hH.get 1 rfl
      have l1 := bl.at (i := 1) rfl
      have hlbl := bl.1
      by_cases hk : k < ln.come
      · have e11 : ((k : Int) < (ln.come : Int)) = True := eq_true (by omega)
        clear hQ5
        have hOq := DObs.get (hp_right (hp_right hH)).left ht
        have hOq : OwnK wr 0 3 1 ((dOf n s).lt (f * n + b)).sent.length (q (f * n + b)) (((dOf n s).lt (f * n + b)).sent.map iV) := hOq
        rw [hlt] at hOq
        have hLl := hlok.b
        have hl120 : ln.sent.length ≤ t := by rw [hln]; exact hinv.len f b
        obtain ⟨gs, cs', es', _, hgs⟩ := hOq.form (by omega)
        rw [← hln] at es
        have e12 := es.symm.trans es'
        injection e12 with e13 _ e14
        subst e13
        subst e14
        rw [es'] at hOq
        obtain ⟨x, hx⟩ : ∃ x, x = ln.sent.getD k 0 := ⟨_, rfl⟩
        have x0 : wr.cell? ⟨gs, k, none⟩ = some (iV x) := by
          rw [(hOq.at (j := k) (by omega)).1, List.getElem?_map, List.getElem?_eq_getElem (show k < ln.sent.length by omega), hx, List.getD_eq_getElem?_getD, List.getElem?_eq_getElem (show k < ln.sent.length by omega)]; rfl
        have l0 := bl.at (i := 0) rfl
        have l2 := bl.at (i := 2) rfl
        (repeat rw [vc_seq]); refine vc_plain _ fun Q hQ => ?_; simp -dsimp (maxSteps := 2000000) only [Fa.F25, e11, rdI_of l1, l1, hlbl, VC.Now, VC.vc_skip, VC.vc_ret, VC.vc_exit, VC.vc_block, VC.vc_cond, VC.vc_region, VC.lib, VC.mapN_drewN, VC.mapB_drewN, VC.regQ, VC.loopK, VC.reg, VC.opP, VC.opS, VC.opZ, VC.nomulB, VC.pv, VC.thenF, VC.blkF, VC.retF, VC.resV, VC.oneV, VC.evo, VC.bin, VC.binI, VC.cmpI, VC.arithI, VC.ldv, VC.slv, VC.pickP, VC.holds, VC.chainOf, VC.look, VC.junk, VC.put, VC.eff, VC.callee, VC.pureB, VC.rdK, VC.rdKs, VC.okKs, VC.eqKs, VC.fillL, VC.putL, VC.stW, VC.stOK, VC.mixF, VC.setAll, Nat.reduceAdd, Nat.reduceSub, Nat.reduceMul, if_true, if_false, ↓reduceIte, forall_const, implies_true, reduceCtorEq, ne_eq, Nat.reduceBNe, Nat.reduceBEq, IntKind.signed, Nat.reduceEqDiff, Nat.reduceLeDiff, Nat.reduceLT, eq_self, Int.reduceEq, Int.reduceLT, Int.reduceLE, Int.reduceAdd, Int.reduceSub, VC.regC_nil, VC.regC_cons, VC.regCK_eq, VC.callQ, VC.tailQ, VC.goCall, VC.chStep]
        subst hQ; simp -dsimp (maxSteps := 2000000) only [VC.Now, VC.vc_skip, VC.vc_ret, VC.vc_exit, VC.vc_block, VC.vc_cond, VC.vc_region, VC.lib, VC.mapN_drewN, VC.mapB_drewN, VC.regQ, VC.loopK, VC.reg, VC.opP, VC.opS, VC.opZ, VC.nomulB, VC.pv, VC.thenF, VC.blkF, VC.retF, VC.resV, VC.oneV, VC.evo, VC.bin, VC.binI, VC.cmpI, VC.arithI, VC.ldv, VC.slv, VC.pickP, VC.holds, VC.chainOf, VC.look, VC.junk, VC.put, VC.eff, VC.callee, VC.pureB, VC.rdK, VC.rdKs, VC.okKs, VC.eqKs, VC.fillL, VC.putL, VC.stW, VC.stOK, VC.mixF, VC.setAll, Nat.reduceAdd, Nat.reduceSub, Nat.reduceMul, if_true, if_false, ↓reduceIte, forall_const, implies_true, reduceCtorEq, ne_eq, Nat.reduceBNe, Nat.reduceBEq, IntKind.signed, Nat.reduceEqDiff, Nat.reduceLeDiff, Nat.reduceLT, eq_self, Int.reduceEq, Int.reduceLT, Int.reduceLE, Int.reduceAdd, Int.reduceSub, VC.regC_nil, VC.regC_cons, VC.regCK_eq, VC.callQ, VC.tailQ, VC.goCall, VC.chStep]; (repeat rw [vc_seq]); refine vc_plain _ fun Q hQ => ?_; simp -dsimp (maxSteps := 2000000) only [Fa.F25, e11, rdI_of l1, l1, hlbl, VC.Now, VC.vc_skip, VC.vc_ret, VC.vc_exit, VC.vc_block, VC.vc_cond, VC.vc_region, VC.lib, VC.mapN_drewN, VC.mapB_drewN, VC.regQ, VC.loopK, VC.reg, VC.opP, VC.opS, VC.opZ, VC.nomulB, VC.pv, VC.thenF, VC.blkF, VC.retF, VC.resV, VC.oneV, VC.evo, VC.bin, VC.binI, VC.cmpI, VC.arithI, VC.ldv, VC.slv, VC.pickP, VC.holds, VC.chainOf, VC.look, VC.junk, VC.put, VC.eff, VC.callee, VC.pureB, VC.rdK, VC.rdKs, VC.okKs, VC.eqKs, VC.fillL, VC.putL, VC.stW, VC.stOK, VC.mixF, VC.setAll, Nat.reduceAdd, Nat.reduceSub, Nat.reduceMul, if_true, if_false, ↓reduceIte, forall_const, implies_true, reduceCtorEq, ne_eq, Nat.reduceBNe, Nat.reduceBEq, IntKind.signed, Nat.reduceEqDiff, Nat.reduceLeDiff, Nat.reduceLT, eq_self, Int.reduceEq, Int.reduceLT, Int.reduceLE, Int.reduceAdd, Int.reduceSub, VC.regC_nil, VC.regC_cons, VC.regCK_eq, VC.callQ, VC.tailQ, VC.goCall, VC.chStep]
        have nn := noted_next (l := ln) (k := k) (o := s.own b) (by omega)
        have cn := clos_next (l := ln) (k := k) (by omega)
        rw [← hx] at nn cn
        have hfb : ¬ (f : Int) = (b : Int) := fun e => by
          have e' : f = b := by omega
          rw [← e'] at hln
          rw [hln, hself] at hLl
          rw [← hln] at hLl
          have : ln.come ≤ 0 := hLl
          omega
        have hmc : mk k = closB (lk ln k) := by rw [hmk, decide_eq_false hfb, Bool.false_or]
        have hmn : mk (k + 1) = (mk k || decide (x < 0)) := by rw [hmk, cn, hmk, Bool.or_assoc]
        rw [← hmc] at nn
        clear hmk cn
        have bo : Box wr ob _ := hH.get 5 rfl
        have m2 := bo.at (i := 2) rfl
        have hol := bo.1
        have bg : Box wr go ((List.range n).map fun i => iV (s.own i)) := hH.get 7 rfl
        have c1 : wr.cell? ⟨go, b, none⟩ = some (iV (s.own b)) := bg.at (i := b) (by simp [hb])
        have hgl' := bg.1
        rw [vc_seq]
        refine vc_plain _ fun Q2 hQ2 => ?_
        by_cases hx0 : x < 0
        · have ex := eq_true hx0
          have ex2 : (0 ≤ x) = False := eq_false (by omega)
          have hmn1 : mk (k + 1) = true := by rw [hmn, decide_eq_true hx0, Bool.or_true]
          simp -dsimp (maxSteps := 2000000) only [Fa.F25, rdSA_of l0, rdSN_of l0, rdSC_of l0, l0, rdI_of x0, x0, hlbl, hgs, ex, Int.toNat_natCast, Nat.zero_add, VC.Now, VC.vc, VC.lib, VC.mapN_drewN, VC.mapB_drewN, VC.regQ, VC.loopK, VC.reg, VC.opP, VC.opS, VC.opZ, VC.nomulB, VC.pv, VC.thenF, VC.blkF, VC.retF, VC.resV, VC.oneV, VC.evo, VC.bin, VC.binI, VC.cmpI, VC.arithI, VC.ldv, VC.slv, VC.pickP, VC.holds, VC.chainOf, VC.look, VC.junk, VC.put, VC.eff, VC.callee, VC.pureB, VC.rdK, VC.rdKs, VC.okKs, VC.eqKs, VC.fillL, VC.putL, VC.stW, VC.stOK, VC.mixF, VC.setAll, Nat.reduceAdd, Nat.reduceSub, Nat.reduceMul, if_true, if_false, ↓reduceIte, forall_const, implies_true, reduceCtorEq, ne_eq, Nat.reduceBNe, Nat.reduceBEq, IntKind.signed, Nat.reduceEqDiff, Nat.reduceLeDiff, Nat.reduceLT, eq_self, Int.reduceEq, Int.reduceLT, Int.reduceLE, Int.reduceAdd, Int.reduceSub, VC.regC_nil, VC.regC_cons, VC.regCK_eq, VC.callQ, VC.tailQ, VC.goCall, VC.chStep]
          refine ⟨by omega, ?_⟩
          subst hQ2
          simp -dsimp (maxSteps := 2000000) only [Fa.F25, VC.Now, VC.vc_skip, VC.vc_ret, VC.vc_exit, VC.vc_block, VC.vc_cond, VC.vc_region, VC.lib, VC.mapN_drewN, VC.mapB_drewN, VC.regQ, VC.loopK, VC.reg, VC.opP, VC.opS, VC.opZ, VC.nomulB, VC.pv, VC.thenF, VC.blkF, VC.retF, VC.resV, VC.oneV, VC.evo, VC.bin, VC.binI, VC.cmpI, VC.arithI, VC.ldv, VC.slv, VC.pickP, VC.holds, VC.chainOf, VC.look, VC.junk, VC.put, VC.eff, VC.callee, VC.pureB, VC.rdK, VC.rdKs, VC.okKs, VC.eqKs, VC.fillL, VC.putL, VC.stW, VC.stOK, VC.mixF, VC.setAll, Nat.reduceAdd, Nat.reduceSub, Nat.reduceMul, if_true, if_false, ↓reduceIte, forall_const, implies_true, reduceCtorEq, ne_eq, Nat.reduceBNe, Nat.reduceBEq, IntKind.signed, Nat.reduceEqDiff, Nat.reduceLeDiff, Nat.reduceLT, eq_self, Int.reduceEq, Int.reduceLT, Int.reduceLE, Int.reduceAdd, Int.reduceSub, VC.regC_nil, VC.regC_cons, VC.regCK_eq, VC.callQ, VC.tailQ, VC.goCall, VC.chStep]
          by_cases ho : 0 ≤ s.own b
          case neg =>
            have eo := eq_false ho
            (repeat rw [vc_seq]); refine vc_plain _ fun Q3 hQ3 => ?_; simp -dsimp (maxSteps := 2000000) only [Fa.F25, rdSA_of m2, rdSN_of m2, rdSC_of m2, m2, rdI_of c1, c1, rdI_of l2, l2, rdSA_of l0, rdSN_of l0, rdSC_of l0, l0, rdI_of x0, x0, hol, hgl', hlbl, hgs, eo, ex2, Int.toNat_natCast, Nat.zero_add, undef, tu, uf, ul, ur, VC.Now, VC.vc_skip, VC.vc_ret, VC.vc_exit, VC.vc_block, VC.vc_cond, VC.vc_region, VC.lib, VC.mapN_drewN, VC.mapB_drewN, VC.regQ, VC.loopK, VC.reg, VC.opP, VC.opS, VC.opZ, VC.nomulB, VC.pv, VC.thenF, VC.blkF, VC.retF, VC.resV, VC.oneV, VC.evo, VC.bin, VC.binI, VC.cmpI, VC.arithI, VC.ldv, VC.slv, VC.pickP, VC.holds, VC.chainOf, VC.look, VC.junk, VC.put, VC.eff, VC.callee, VC.pureB, VC.rdK, VC.rdKs, VC.okKs, VC.eqKs, VC.fillL, VC.putL, VC.stW, VC.stOK, VC.mixF, VC.setAll, Nat.reduceAdd, Nat.reduceSub, Nat.reduceMul, if_true, if_false, ↓reduceIte, forall_const, implies_true, reduceCtorEq, ne_eq, Nat.reduceBNe, Nat.reduceBEq, IntKind.signed, Nat.reduceEqDiff, Nat.reduceLeDiff, Nat.reduceLT, eq_self, Int.reduceEq, Int.reduceLT, Int.reduceLE, Int.reduceAdd, Int.reduceSub, VC.regC_nil, VC.regC_cons, VC.regCK_eq, VC.callQ, VC.tailQ, VC.goCall, VC.chStep]
            refine ⟨⟨by omega, by omega⟩, fun u9 => ?_⟩
            subst hQ3
            simp -dsimp (maxSteps := 2000000) only [Fa.F25, undef, tu, uf, ul, ur, VC.Now, VC.vc, VC.lib, VC.mapN_drewN, VC.mapB_drewN, VC.regQ, VC.loopK, VC.reg, VC.opP, VC.opS, VC.opZ, VC.nomulB, VC.pv, VC.thenF, VC.blkF, VC.retF, VC.resV, VC.oneV, VC.evo, VC.bin, VC.binI, VC.cmpI, VC.arithI, VC.ldv, VC.slv, VC.pickP, VC.holds, VC.chainOf, VC.look, VC.junk, VC.put, VC.eff, VC.callee, VC.pureB, VC.rdK, VC.rdKs, VC.okKs, VC.eqKs, VC.fillL, VC.putL, VC.stW, VC.stOK, VC.mixF, VC.setAll, Nat.reduceAdd, Nat.reduceSub, Nat.reduceMul, if_true, if_false, ↓reduceIte, forall_const, implies_true, reduceCtorEq, ne_eq, Nat.reduceBNe, Nat.reduceBEq, IntKind.signed, Nat.reduceEqDiff, Nat.reduceLeDiff, Nat.reduceLT, eq_self, Int.reduceEq, Int.reduceLT, Int.reduceLE, Int.reduceAdd, Int.reduceSub, VC.regC_nil, VC.regC_cons, VC.regCK_eq, VC.callQ, VC.tailQ, VC.goCall, VC.chStep]
            subst hQ
            simp -dsimp (maxSteps := 2000000) only [Fa.F25, VC.Now, VC.vc, VC.lib, VC.mapN_drewN, VC.mapB_drewN, VC.regQ, VC.loopK, VC.reg, VC.opP, VC.opS, VC.opZ, VC.nomulB, VC.pv, VC.thenF, VC.blkF, VC.retF, VC.resV, VC.oneV, VC.evo, VC.bin, VC.binI, VC.cmpI, VC.arithI, VC.ldv, VC.slv, VC.pickP, VC.holds, VC.chainOf, VC.look, VC.junk, VC.put, VC.eff, VC.callee, VC.pureB, VC.rdK, VC.rdKs, VC.okKs, VC.eqKs, VC.fillL, VC.putL, VC.stW, VC.stOK, VC.mixF, VC.setAll, Nat.reduceAdd, Nat.reduceSub, Nat.reduceMul, if_true, if_false, ↓reduceIte, forall_const, implies_true, reduceCtorEq, ne_eq, Nat.reduceBNe, Nat.reduceBEq, IntKind.signed, Nat.reduceEqDiff, Nat.reduceLeDiff, Nat.reduceLT, eq_self, Int.reduceEq, Int.reduceLT, Int.reduceLE, Int.reduceAdd, Int.reduceSub, VC.regC_nil, VC.regC_cons, VC.regCK_eq, VC.callQ, VC.tailQ, VC.goCall, VC.chStep]
            refine ⟨fits_i64_nat (by omega), SAME.intro (by kernel_rfl), m4 - 1, by omega, k + 1, lv, by omega, by rw [hmn1]; rfl, hBx, ?_⟩
            rw [nn, if_neg (fun h => ho h.1)]
            exact hH
          have eo := eq_true ho
          by_cases hnk : ln.noted ≤ k
          case neg =>
            have en : ((ln.noted : Int) ≤ (k : Int)) = False := eq_false (by omega)
            (repeat rw [vc_seq]); refine vc_plain _ fun Q3 hQ3 => ?_; simp -dsimp (maxSteps := 2000000) only [Fa.F25, rdSA_of m2, rdSN_of m2, rdSC_of m2, m2, rdI_of c1, c1, rdI_of l2, l2, rdSA_of l0, rdSN_of l0, rdSC_of l0, l0, rdI_of x0, x0, hol, hgl', hlbl, hgs, eo, en, ex2, Int.toNat_natCast, Nat.zero_add, undef, tu, uf, ul, ur, VC.Now, VC.vc_skip, VC.vc_ret, VC.vc_exit, VC.vc_block, VC.vc_cond, VC.vc_region, VC.lib, VC.mapN_drewN, VC.mapB_drewN, VC.regQ, VC.loopK, VC.reg, VC.opP, VC.opS, VC.opZ, VC.nomulB, VC.pv, VC.thenF, VC.blkF, VC.retF, VC.resV, VC.oneV, VC.evo, VC.bin, VC.binI, VC.cmpI, VC.arithI, VC.ldv, VC.slv, VC.pickP, VC.holds, VC.chainOf, VC.look, VC.junk, VC.put, VC.eff, VC.callee, VC.pureB, VC.rdK, VC.rdKs, VC.okKs, VC.eqKs, VC.fillL, VC.putL, VC.stW, VC.stOK, VC.mixF, VC.setAll, Nat.reduceAdd, Nat.reduceSub, Nat.reduceMul, if_true, if_false, ↓reduceIte, forall_const, implies_true, reduceCtorEq, ne_eq, Nat.reduceBNe, Nat.reduceBEq, IntKind.signed, Nat.reduceEqDiff, Nat.reduceLeDiff, Nat.reduceLT, eq_self, Int.reduceEq, Int.reduceLT, Int.reduceLE, Int.reduceAdd, Int.reduceSub, VC.regC_nil, VC.regC_cons, VC.regCK_eq, VC.callQ, VC.tailQ, VC.goCall, VC.chStep]
            refine ⟨⟨by omega, by omega⟩, fun u9 => ?_⟩
            subst hQ3
            simp -dsimp (maxSteps := 2000000) only [Fa.F25, undef, tu, uf, ul, ur, VC.Now, VC.vc, VC.lib, VC.mapN_drewN, VC.mapB_drewN, VC.regQ, VC.loopK, VC.reg, VC.opP, VC.opS, VC.opZ, VC.nomulB, VC.pv, VC.thenF, VC.blkF, VC.retF, VC.resV, VC.oneV, VC.evo, VC.bin, VC.binI, VC.cmpI, VC.arithI, VC.ldv, VC.slv, VC.pickP, VC.holds, VC.chainOf, VC.look, VC.junk, VC.put, VC.eff, VC.callee, VC.pureB, VC.rdK, VC.rdKs, VC.okKs, VC.eqKs, VC.fillL, VC.putL, VC.stW, VC.stOK, VC.mixF, VC.setAll, Nat.reduceAdd, Nat.reduceSub, Nat.reduceMul, if_true, if_false, ↓reduceIte, forall_const, implies_true, reduceCtorEq, ne_eq, Nat.reduceBNe, Nat.reduceBEq, IntKind.signed, Nat.reduceEqDiff, Nat.reduceLeDiff, Nat.reduceLT, eq_self, Int.reduceEq, Int.reduceLT, Int.reduceLE, Int.reduceAdd, Int.reduceSub, VC.regC_nil, VC.regC_cons, VC.regCK_eq, VC.callQ, VC.tailQ, VC.goCall, VC.chStep]
            subst hQ
            simp -dsimp (maxSteps := 2000000) only [Fa.F25, VC.Now, VC.vc, VC.lib, VC.mapN_drewN, VC.mapB_drewN, VC.regQ, VC.loopK, VC.reg, VC.opP, VC.opS, VC.opZ, VC.nomulB, VC.pv, VC.thenF, VC.blkF, VC.retF, VC.resV, VC.oneV, VC.evo, VC.bin, VC.binI, VC.cmpI, VC.arithI, VC.ldv, VC.slv, VC.pickP, VC.holds, VC.chainOf, VC.look, VC.junk, VC.put, VC.eff, VC.callee, VC.pureB, VC.rdK, VC.rdKs, VC.okKs, VC.eqKs, VC.fillL, VC.putL, VC.stW, VC.stOK, VC.mixF, VC.setAll, Nat.reduceAdd, Nat.reduceSub, Nat.reduceMul, if_true, if_false, ↓reduceIte, forall_const, implies_true, reduceCtorEq, ne_eq, Nat.reduceBNe, Nat.reduceBEq, IntKind.signed, Nat.reduceEqDiff, Nat.reduceLeDiff, Nat.reduceLT, eq_self, Int.reduceEq, Int.reduceLT, Int.reduceLE, Int.reduceAdd, Int.reduceSub, VC.regC_nil, VC.regC_cons, VC.regCK_eq, VC.callQ, VC.tailQ, VC.goCall, VC.chStep]
            refine ⟨fits_i64_nat (by omega), SAME.intro (by kernel_rfl), m4 - 1, by omega, k + 1, lv, by omega, by rw [hmn1]; rfl, hBx, ?_⟩
            rw [nn, if_neg (fun h => hnk h.2.1)]
            exact hH
          have en : ((ln.noted : Int) ≤ (k : Int)) = True := eq_true (by omega)
          (repeat rw [vc_seq]); refine vc_plain _ fun Q3 hQ3 => ?_; simp -dsimp (maxSteps := 2000000) only [Fa.F25, rdSA_of m2, rdSN_of m2, rdSC_of m2, m2, rdI_of c1, c1, rdI_of l2, l2, rdSA_of l0, rdSN_of l0, rdSC_of l0, l0, rdI_of x0, x0, hol, hgl', hlbl, hgs, eo, en, ex2, Int.toNat_natCast, Nat.zero_add, undef, tu, uf, ul, ur, VC.Now, VC.vc_skip, VC.vc_ret, VC.vc_exit, VC.vc_block, VC.vc_cond, VC.vc_region, VC.lib, VC.mapN_drewN, VC.mapB_drewN, VC.regQ, VC.loopK, VC.reg, VC.opP, VC.opS, VC.opZ, VC.nomulB, VC.pv, VC.thenF, VC.blkF, VC.retF, VC.resV, VC.oneV, VC.evo, VC.bin, VC.binI, VC.cmpI, VC.arithI, VC.ldv, VC.slv, VC.pickP, VC.holds, VC.chainOf, VC.look, VC.junk, VC.put, VC.eff, VC.callee, VC.pureB, VC.rdK, VC.rdKs, VC.okKs, VC.eqKs, VC.fillL, VC.putL, VC.stW, VC.stOK, VC.mixF, VC.setAll, Nat.reduceAdd, Nat.reduceSub, Nat.reduceMul, if_true, if_false, ↓reduceIte, forall_const, implies_true, reduceCtorEq, ne_eq, Nat.reduceBNe, Nat.reduceBEq, IntKind.signed, Nat.reduceEqDiff, Nat.reduceLeDiff, Nat.reduceLT, eq_self, Int.reduceEq, Int.reduceLT, Int.reduceLE, Int.reduceAdd, Int.reduceSub, VC.regC_nil, VC.regC_cons, VC.regCK_eq, VC.callQ, VC.tailQ, VC.goCall, VC.chStep]
          refine ⟨⟨by omega, by omega⟩, ⟨by omega, by omega⟩, fun u9 => ?_⟩
          subst hQ3
          simp -dsimp (maxSteps := 2000000) only [Fa.F25, undef, tu, uf, ul, ur, VC.Now, VC.vc, VC.lib, VC.mapN_drewN, VC.mapB_drewN, VC.regQ, VC.loopK, VC.reg, VC.opP, VC.opS, VC.opZ, VC.nomulB, VC.pv, VC.thenF, VC.blkF, VC.retF, VC.resV, VC.oneV, VC.evo, VC.bin, VC.binI, VC.cmpI, VC.arithI, VC.ldv, VC.slv, VC.pickP, VC.holds, VC.chainOf, VC.look, VC.junk, VC.put, VC.eff, VC.callee, VC.pureB, VC.rdK, VC.rdKs, VC.okKs, VC.eqKs, VC.fillL, VC.putL, VC.stW, VC.stOK, VC.mixF, VC.setAll, Nat.reduceAdd, Nat.reduceSub, Nat.reduceMul, if_true, if_false, ↓reduceIte, forall_const, implies_true, reduceCtorEq, ne_eq, Nat.reduceBNe, Nat.reduceBEq, IntKind.signed, Nat.reduceEqDiff, Nat.reduceLeDiff, Nat.reduceLT, eq_self, Int.reduceEq, Int.reduceLT, Int.reduceLE, Int.reduceAdd, Int.reduceSub, VC.regC_nil, VC.regC_cons, VC.regCK_eq, VC.callQ, VC.tailQ, VC.goCall, VC.chStep]
          subst hQ
          simp -dsimp (maxSteps := 2000000) only [Fa.F25, VC.Now, VC.vc, VC.lib, VC.mapN_drewN, VC.mapB_drewN, VC.regQ, VC.loopK, VC.reg, VC.opP, VC.opS, VC.opZ, VC.nomulB, VC.pv, VC.thenF, VC.blkF, VC.retF, VC.resV, VC.oneV, VC.evo, VC.bin, VC.binI, VC.cmpI, VC.arithI, VC.ldv, VC.slv, VC.pickP, VC.holds, VC.chainOf, VC.look, VC.junk, VC.put, VC.eff, VC.callee, VC.pureB, VC.rdK, VC.rdKs, VC.okKs, VC.eqKs, VC.fillL, VC.putL, VC.stW, VC.stOK, VC.mixF, VC.setAll, Nat.reduceAdd, Nat.reduceSub, Nat.reduceMul, if_true, if_false, ↓reduceIte, forall_const, implies_true, reduceCtorEq, ne_eq, Nat.reduceBNe, Nat.reduceBEq, IntKind.signed, Nat.reduceEqDiff, Nat.reduceLeDiff, Nat.reduceLT, eq_self, Int.reduceEq, Int.reduceLT, Int.reduceLE, Int.reduceAdd, Int.reduceSub, VC.regC_nil, VC.regC_cons, VC.regCK_eq, VC.callQ, VC.tailQ, VC.goCall, VC.chStep]
          refine ⟨fits_i64_nat (by omega), SAME.intro (by kernel_rfl), m4 - 1, by omega, k + 1, lv, by omega, by rw [hmn1]; rfl, hBx, ?_⟩
          rw [nn, if_neg (fun h => by have := h.2.2.1; omega)]
          exact hH
        have ex := eq_false hx0
        have ex2 : (0 ≤ x) = True := eq_true (by omega)
        have hmn1 : mk (k + 1) = mk k := by rw [hmn, decide_eq_false hx0, Bool.or_false]
        simp -dsimp (maxSteps := 2000000) only [Fa.F25, rdSA_of l0, rdSN_of l0, rdSC_of l0, l0, rdI_of x0, x0, hlbl, hgs, ex, Int.toNat_natCast, Nat.zero_add, VC.Now, VC.vc, VC.lib, VC.mapN_drewN, VC.mapB_drewN, VC.regQ, VC.loopK, VC.reg, VC.opP, VC.opS, VC.opZ, VC.nomulB, VC.pv, VC.thenF, VC.blkF, VC.retF, VC.resV, VC.oneV, VC.evo, VC.bin, VC.binI, VC.cmpI, VC.arithI, VC.ldv, VC.slv, VC.pickP, VC.holds, VC.chainOf, VC.look, VC.junk, VC.put, VC.eff, VC.callee, VC.pureB, VC.rdK, VC.rdKs, VC.okKs, VC.eqKs, VC.fillL, VC.putL, VC.stW, VC.stOK, VC.mixF, VC.setAll, Nat.reduceAdd, Nat.reduceSub, Nat.reduceMul, if_true, if_false, ↓reduceIte, forall_const, implies_true, reduceCtorEq, ne_eq, Nat.reduceBNe, Nat.reduceBEq, IntKind.signed, Nat.reduceEqDiff, Nat.reduceLeDiff, Nat.reduceLT, eq_self, Int.reduceEq, Int.reduceLT, Int.reduceLE, Int.reduceAdd, Int.reduceSub, VC.regC_nil, VC.regC_cons, VC.regCK_eq, VC.callQ, VC.tailQ, VC.goCall, VC.chStep]
        refine ⟨by omega, ?_⟩
        subst hQ2
        simp -dsimp (maxSteps := 2000000) only [Fa.F25, VC.Now, VC.vc_skip, VC.vc_ret, VC.vc_exit, VC.vc_block, VC.vc_cond, VC.vc_region, VC.lib, VC.mapN_drewN, VC.mapB_drewN, VC.regQ, VC.loopK, VC.reg, VC.opP, VC.opS, VC.opZ, VC.nomulB, VC.pv, VC.thenF, VC.blkF, VC.retF, VC.resV, VC.oneV, VC.evo, VC.bin, VC.binI, VC.cmpI, VC.arithI, VC.ldv, VC.slv, VC.pickP, VC.holds, VC.chainOf, VC.look, VC.junk, VC.put, VC.eff, VC.callee, VC.pureB, VC.rdK, VC.rdKs, VC.okKs, VC.eqKs, VC.fillL, VC.putL, VC.stW, VC.stOK, VC.mixF, VC.setAll, Nat.reduceAdd, Nat.reduceSub, Nat.reduceMul, if_true, if_false, ↓reduceIte, forall_const, implies_true, reduceCtorEq, ne_eq, Nat.reduceBNe, Nat.reduceBEq, IntKind.signed, Nat.reduceEqDiff, Nat.reduceLeDiff, Nat.reduceLT, eq_self, Int.reduceEq, Int.reduceLT, Int.reduceLE, Int.reduceAdd, Int.reduceSub, VC.regC_nil, VC.regC_cons, VC.regCK_eq, VC.callQ, VC.tailQ, VC.goCall, VC.chStep]
        by_cases ho : 0 ≤ s.own b
        case neg =>
          have eo := eq_false ho
          (repeat rw [vc_seq]); refine vc_plain _ fun Q3 hQ3 => ?_; simp -dsimp (maxSteps := 2000000) only [Fa.F25, rdSA_of m2, rdSN_of m2, rdSC_of m2, m2, rdI_of c1, c1, rdI_of l2, l2, rdSA_of l0, rdSN_of l0, rdSC_of l0, l0, rdI_of x0, x0, hol, hgl', hlbl, hgs, eo, ex2, Int.toNat_natCast, Nat.zero_add, undef, tu, uf, ul, ur, VC.Now, VC.vc_skip, VC.vc_ret, VC.vc_exit, VC.vc_block, VC.vc_cond, VC.vc_region, VC.lib, VC.mapN_drewN, VC.mapB_drewN, VC.regQ, VC.loopK, VC.reg, VC.opP, VC.opS, VC.opZ, VC.nomulB, VC.pv, VC.thenF, VC.blkF, VC.retF, VC.resV, VC.oneV, VC.evo, VC.bin, VC.binI, VC.cmpI, VC.arithI, VC.ldv, VC.slv, VC.pickP, VC.holds, VC.chainOf, VC.look, VC.junk, VC.put, VC.eff, VC.callee, VC.pureB, VC.rdK, VC.rdKs, VC.okKs, VC.eqKs, VC.fillL, VC.putL, VC.stW, VC.stOK, VC.mixF, VC.setAll, Nat.reduceAdd, Nat.reduceSub, Nat.reduceMul, if_true, if_false, ↓reduceIte, forall_const, implies_true, reduceCtorEq, ne_eq, Nat.reduceBNe, Nat.reduceBEq, IntKind.signed, Nat.reduceEqDiff, Nat.reduceLeDiff, Nat.reduceLT, eq_self, Int.reduceEq, Int.reduceLT, Int.reduceLE, Int.reduceAdd, Int.reduceSub, VC.regC_nil, VC.regC_cons, VC.regCK_eq, VC.callQ, VC.tailQ, VC.goCall, VC.chStep]
          refine ⟨⟨by omega, by omega⟩, fun u9 => ?_⟩
          subst hQ3
          simp -dsimp (maxSteps := 2000000) only [Fa.F25, undef, tu, uf, ul, ur, VC.Now, VC.vc, VC.lib, VC.mapN_drewN, VC.mapB_drewN, VC.regQ, VC.loopK, VC.reg, VC.opP, VC.opS, VC.opZ, VC.nomulB, VC.pv, VC.thenF, VC.blkF, VC.retF, VC.resV, VC.oneV, VC.evo, VC.bin, VC.binI, VC.cmpI, VC.arithI, VC.ldv, VC.slv, VC.pickP, VC.holds, VC.chainOf, VC.look, VC.junk, VC.put, VC.eff, VC.callee, VC.pureB, VC.rdK, VC.rdKs, VC.okKs, VC.eqKs, VC.fillL, VC.putL, VC.stW, VC.stOK, VC.mixF, VC.setAll, Nat.reduceAdd, Nat.reduceSub, Nat.reduceMul, if_true, if_false, ↓reduceIte, forall_const, implies_true, reduceCtorEq, ne_eq, Nat.reduceBNe, Nat.reduceBEq, IntKind.signed, Nat.reduceEqDiff, Nat.reduceLeDiff, Nat.reduceLT, eq_self, Int.reduceEq, Int.reduceLT, Int.reduceLE, Int.reduceAdd, Int.reduceSub, VC.regC_nil, VC.regC_cons, VC.regCK_eq, VC.callQ, VC.tailQ, VC.goCall, VC.chStep]
          subst hQ
          simp -dsimp (maxSteps := 2000000) only [Fa.F25, VC.Now, VC.vc, VC.lib, VC.mapN_drewN, VC.mapB_drewN, VC.regQ, VC.loopK, VC.reg, VC.opP, VC.opS, VC.opZ, VC.nomulB, VC.pv, VC.thenF, VC.blkF, VC.retF, VC.resV, VC.oneV, VC.evo, VC.bin, VC.binI, VC.cmpI, VC.arithI, VC.ldv, VC.slv, VC.pickP, VC.holds, VC.chainOf, VC.look, VC.junk, VC.put, VC.eff, VC.callee, VC.pureB, VC.rdK, VC.rdKs, VC.okKs, VC.eqKs, VC.fillL, VC.putL, VC.stW, VC.stOK, VC.mixF, VC.setAll, Nat.reduceAdd, Nat.reduceSub, Nat.reduceMul, if_true, if_false, ↓reduceIte, forall_const, implies_true, reduceCtorEq, ne_eq, Nat.reduceBNe, Nat.reduceBEq, IntKind.signed, Nat.reduceEqDiff, Nat.reduceLeDiff, Nat.reduceLT, eq_self, Int.reduceEq, Int.reduceLT, Int.reduceLE, Int.reduceAdd, Int.reduceSub, VC.regC_nil, VC.regC_cons, VC.regCK_eq, VC.callQ, VC.tailQ, VC.goCall, VC.chStep]
          refine ⟨fits_i64_nat (by omega), SAME.intro (by kernel_rfl), m4 - 1, by omega, k + 1, lv, by omega, by rw [hmn1]; rfl, hBx, ?_⟩
          rw [nn, if_neg (fun h => ho h.1)]
          exact hH
        have eo := eq_true ho
        by_cases hnk : ln.noted ≤ k
        case neg =>
          have en : ((ln.noted : Int) ≤ (k : Int)) = False := eq_false (by omega)
          (repeat rw [vc_seq]); refine vc_plain _ fun Q3 hQ3 => ?_; simp -dsimp (maxSteps := 2000000) only [Fa.F25, rdSA_of m2, rdSN_of m2, rdSC_of m2, m2, rdI_of c1, c1, rdI_of l2, l2, rdSA_of l0, rdSN_of l0, rdSC_of l0, l0, rdI_of x0, x0, hol, hgl', hlbl, hgs, eo, en, ex2, Int.toNat_natCast, Nat.zero_add, undef, tu, uf, ul, ur, VC.Now, VC.vc_skip, VC.vc_ret, VC.vc_exit, VC.vc_block, VC.vc_cond, VC.vc_region, VC.lib, VC.mapN_drewN, VC.mapB_drewN, VC.regQ, VC.loopK, VC.reg, VC.opP, VC.opS, VC.opZ, VC.nomulB, VC.pv, VC.thenF, VC.blkF, VC.retF, VC.resV, VC.oneV, VC.evo, VC.bin, VC.binI, VC.cmpI, VC.arithI, VC.ldv, VC.slv, VC.pickP, VC.holds, VC.chainOf, VC.look, VC.junk, VC.put, VC.eff, VC.callee, VC.pureB, VC.rdK, VC.rdKs, VC.okKs, VC.eqKs, VC.fillL, VC.putL, VC.stW, VC.stOK, VC.mixF, VC.setAll, Nat.reduceAdd, Nat.reduceSub, Nat.reduceMul, if_true, if_false, ↓reduceIte, forall_const, implies_true, reduceCtorEq, ne_eq, Nat.reduceBNe, Nat.reduceBEq, IntKind.signed, Nat.reduceEqDiff, Nat.reduceLeDiff, Nat.reduceLT, eq_self, Int.reduceEq, Int.reduceLT, Int.reduceLE, Int.reduceAdd, Int.reduceSub, VC.regC_nil, VC.regC_cons, VC.regCK_eq, VC.callQ, VC.tailQ, VC.goCall, VC.chStep]
          refine ⟨⟨by omega, by omega⟩, fun u9 => ?_⟩
          subst hQ3
          simp -dsimp (maxSteps := 2000000) only [Fa.F25, undef, tu, uf, ul, ur, VC.Now, VC.vc, VC.lib, VC.mapN_drewN, VC.mapB_drewN, VC.regQ, VC.loopK, VC.reg, VC.opP, VC.opS, VC.opZ, VC.nomulB, VC.pv, VC.thenF, VC.blkF, VC.retF, VC.resV, VC.oneV, VC.evo, VC.bin, VC.binI, VC.cmpI, VC.arithI, VC.ldv, VC.slv, VC.pickP, VC.holds, VC.chainOf, VC.look, VC.junk, VC.put, VC.eff, VC.callee, VC.pureB, VC.rdK, VC.rdKs, VC.okKs, VC.eqKs, VC.fillL, VC.putL, VC.stW, VC.stOK, VC.mixF, VC.setAll, Nat.reduceAdd, Nat.reduceSub, Nat.reduceMul, if_true, if_false, ↓reduceIte, forall_const, implies_true, reduceCtorEq, ne_eq, Nat.reduceBNe, Nat.reduceBEq, IntKind.signed, Nat.reduceEqDiff, Nat.reduceLeDiff, Nat.reduceLT, eq_self, Int.reduceEq, Int.reduceLT, Int.reduceLE, Int.reduceAdd, Int.reduceSub, VC.regC_nil, VC.regC_cons, VC.regCK_eq, VC.callQ, VC.tailQ, VC.goCall, VC.chStep]
          subst hQ
          simp -dsimp (maxSteps := 2000000) only [Fa.F25, VC.Now, VC.vc, VC.lib, VC.mapN_drewN, VC.mapB_drewN, VC.regQ, VC.loopK, VC.reg, VC.opP, VC.opS, VC.opZ, VC.nomulB, VC.pv, VC.thenF, VC.blkF, VC.retF, VC.resV, VC.oneV, VC.evo, VC.bin, VC.binI, VC.cmpI, VC.arithI, VC.ldv, VC.slv, VC.pickP, VC.holds, VC.chainOf, VC.look, VC.junk, VC.put, VC.eff, VC.callee, VC.pureB, VC.rdK, VC.rdKs, VC.okKs, VC.eqKs, VC.fillL, VC.putL, VC.stW, VC.stOK, VC.mixF, VC.setAll, Nat.reduceAdd, Nat.reduceSub, Nat.reduceMul, if_true, if_false, ↓reduceIte, forall_const, implies_true, reduceCtorEq, ne_eq, Nat.reduceBNe, Nat.reduceBEq, IntKind.signed, Nat.reduceEqDiff, Nat.reduceLeDiff, Nat.reduceLT, eq_self, Int.reduceEq, Int.reduceLT, Int.reduceLE, Int.reduceAdd, Int.reduceSub, VC.regC_nil, VC.regC_cons, VC.regCK_eq, VC.callQ, VC.tailQ, VC.goCall, VC.chStep]
          refine ⟨fits_i64_nat (by omega), SAME.intro (by kernel_rfl), m4 - 1, by omega, k + 1, lv, by omega, by rw [hmn1]; rfl, hBx, ?_⟩
          rw [nn, if_neg (fun h => hnk h.2.1)]
          exact hH
        have en : ((ln.noted : Int) ≤ (k : Int)) = True := eq_true (by omega)
        cases hcb : mk k with
        | true =>
          (repeat rw [vc_seq]); refine vc_plain _ fun Q3 hQ3 => ?_; simp -dsimp (maxSteps := 2000000) only [Fa.F25, rdSA_of m2, rdSN_of m2, rdSC_of m2, m2, rdI_of c1, c1, rdI_of l2, l2, rdSA_of l0, rdSN_of l0, rdSC_of l0, l0, rdI_of x0, x0, hol, hgl', hlbl, hgs, eo, en, ex2, hcb, Int.toNat_natCast, Nat.zero_add, undef, tu, uf, ul, ur, VC.Now, VC.vc_skip, VC.vc_ret, VC.vc_exit, VC.vc_block, VC.vc_cond, VC.vc_region, VC.lib, VC.mapN_drewN, VC.mapB_drewN, VC.regQ, VC.loopK, VC.reg, VC.opP, VC.opS, VC.opZ, VC.nomulB, VC.pv, VC.thenF, VC.blkF, VC.retF, VC.resV, VC.oneV, VC.evo, VC.bin, VC.binI, VC.cmpI, VC.arithI, VC.ldv, VC.slv, VC.pickP, VC.holds, VC.chainOf, VC.look, VC.junk, VC.put, VC.eff, VC.callee, VC.pureB, VC.rdK, VC.rdKs, VC.okKs, VC.eqKs, VC.fillL, VC.putL, VC.stW, VC.stOK, VC.mixF, VC.setAll, Nat.reduceAdd, Nat.reduceSub, Nat.reduceMul, if_true, if_false, ↓reduceIte, forall_const, implies_true, reduceCtorEq, ne_eq, Nat.reduceBNe, Nat.reduceBEq, IntKind.signed, Nat.reduceEqDiff, Nat.reduceLeDiff, Nat.reduceLT, eq_self, Int.reduceEq, Int.reduceLT, Int.reduceLE, Int.reduceAdd, Int.reduceSub, VC.regC_nil, VC.regC_cons, VC.regCK_eq, VC.callQ, VC.tailQ, VC.goCall, VC.chStep]
          refine ⟨⟨by omega, by omega⟩, ⟨by omega, by omega⟩, fun u9 => ?_⟩
          subst hQ3
          simp -dsimp (maxSteps := 2000000) only [Fa.F25, undef, tu, uf, ul, ur, VC.Now, VC.vc, VC.lib, VC.mapN_drewN, VC.mapB_drewN, VC.regQ, VC.loopK, VC.reg, VC.opP, VC.opS, VC.opZ, VC.nomulB, VC.pv, VC.thenF, VC.blkF, VC.retF, VC.resV, VC.oneV, VC.evo, VC.bin, VC.binI, VC.cmpI, VC.arithI, VC.ldv, VC.slv, VC.pickP, VC.holds, VC.chainOf, VC.look, VC.junk, VC.put, VC.eff, VC.callee, VC.pureB, VC.rdK, VC.rdKs, VC.okKs, VC.eqKs, VC.fillL, VC.putL, VC.stW, VC.stOK, VC.mixF, VC.setAll, Nat.reduceAdd, Nat.reduceSub, Nat.reduceMul, if_true, if_false, ↓reduceIte, forall_const, implies_true, reduceCtorEq, ne_eq, Nat.reduceBNe, Nat.reduceBEq, IntKind.signed, Nat.reduceEqDiff, Nat.reduceLeDiff, Nat.reduceLT, eq_self, Int.reduceEq, Int.reduceLT, Int.reduceLE, Int.reduceAdd, Int.reduceSub, VC.regC_nil, VC.regC_cons, VC.regCK_eq, VC.callQ, VC.tailQ, VC.goCall, VC.chStep]
          subst hQ
          simp -dsimp (maxSteps := 2000000) only [Fa.F25, VC.Now, VC.vc, VC.lib, VC.mapN_drewN, VC.mapB_drewN, VC.regQ, VC.loopK, VC.reg, VC.opP, VC.opS, VC.opZ, VC.nomulB, VC.pv, VC.thenF, VC.blkF, VC.retF, VC.resV, VC.oneV, VC.evo, VC.bin, VC.binI, VC.cmpI, VC.arithI, VC.ldv, VC.slv, VC.pickP, VC.holds, VC.chainOf, VC.look, VC.junk, VC.put, VC.eff, VC.callee, VC.pureB, VC.rdK, VC.rdKs, VC.okKs, VC.eqKs, VC.fillL, VC.putL, VC.stW, VC.stOK, VC.mixF, VC.setAll, Nat.reduceAdd, Nat.reduceSub, Nat.reduceMul, if_true, if_false, ↓reduceIte, forall_const, implies_true, reduceCtorEq, ne_eq, Nat.reduceBNe, Nat.reduceBEq, IntKind.signed, Nat.reduceEqDiff, Nat.reduceLeDiff, Nat.reduceLT, eq_self, Int.reduceEq, Int.reduceLT, Int.reduceLE, Int.reduceAdd, Int.reduceSub, VC.regC_nil, VC.regC_cons, VC.regCK_eq, VC.callQ, VC.tailQ, VC.goCall, VC.chStep]
          refine ⟨fits_i64_nat (by omega), SAME.intro (by kernel_rfl), m4 - 1, by omega, k + 1, lv, by omega, by rw [hmn1, hcb]; rfl, hBx, ?_⟩
          rw [nn, if_neg (fun h => by rw [hcb] at h; cases h.2.2.2)]
          exact hH
        | false =>
          obtain ⟨Al, cl2, rfl, _⟩ := id (hH.get 0 rfl : OwnK wr 0 3 1 (notedL (s.own b) (lk ln k)).length lv _)
          (repeat rw [vc_seq]); refine vc_plain _ fun Q3 hQ3 => ?_; simp -dsimp (maxSteps := 2000000) only [Fa.F25, rdSA_of m2, rdSN_of m2, rdSC_of m2, m2, rdI_of c1, c1, rdI_of l2, l2, rdSA_of l0, rdSN_of l0, rdSC_of l0, l0, rdI_of x0, x0, hol, hgl', hlbl, hgs, eo, en, ex2, hcb, Int.toNat_natCast, Nat.zero_add, undef, tu, uf, ul, ur, VC.Now, VC.vc_skip, VC.vc_ret, VC.vc_exit, VC.vc_block, VC.vc_cond, VC.vc_region, VC.lib, VC.mapN_drewN, VC.mapB_drewN, VC.regQ, VC.loopK, VC.reg, VC.opP, VC.opS, VC.opZ, VC.nomulB, VC.pv, VC.thenF, VC.blkF, VC.retF, VC.resV, VC.oneV, VC.evo, VC.bin, VC.binI, VC.cmpI, VC.arithI, VC.ldv, VC.slv, VC.pickP, VC.holds, VC.chainOf, VC.look, VC.junk, VC.put, VC.eff, VC.callee, VC.pureB, VC.rdK, VC.rdKs, VC.okKs, VC.eqKs, VC.fillL, VC.putL, VC.stW, VC.stOK, VC.mixF, VC.setAll, Nat.reduceAdd, Nat.reduceSub, Nat.reduceMul, if_true, if_false, ↓reduceIte, forall_const, implies_true, reduceCtorEq, ne_eq, Nat.reduceBNe, Nat.reduceBEq, IntKind.signed, Nat.reduceEqDiff, Nat.reduceLeDiff, Nat.reduceLT, eq_self, Int.reduceEq, Int.reduceLT, Int.reduceLE, Int.reduceAdd, Int.reduceSub, VC.regC_nil, VC.regC_cons, VC.regCK_eq, VC.callQ, VC.tailQ, VC.goCall, VC.chStep]
          refine ⟨⟨by omega, by omega⟩, ⟨by omega, by omega⟩, fun u9 => ?_⟩
          subst hQ3
          simp -dsimp (maxSteps := 2000000) only [Fa.F25, rdSA_of l0, rdSN_of l0, rdSC_of l0, l0, rdI_of x0, x0, hlbl, hgs, Int.toNat_natCast, Nat.zero_add, undef, tu, uf, ul, ur, VC.Now, VC.vc, VC.lib, VC.mapN_drewN, VC.mapB_drewN, VC.regQ, VC.loopK, VC.reg, VC.opP, VC.opS, VC.opZ, VC.nomulB, VC.pv, VC.thenF, VC.blkF, VC.retF, VC.resV, VC.oneV, VC.evo, VC.bin, VC.binI, VC.cmpI, VC.arithI, VC.ldv, VC.slv, VC.pickP, VC.holds, VC.chainOf, VC.look, VC.junk, VC.put, VC.eff, VC.callee, VC.pureB, VC.rdK, VC.rdKs, VC.okKs, VC.eqKs, VC.fillL, VC.putL, VC.stW, VC.stOK, VC.mixF, VC.setAll, Nat.reduceAdd, Nat.reduceSub, Nat.reduceMul, if_true, if_false, ↓reduceIte, forall_const, implies_true, reduceCtorEq, ne_eq, Nat.reduceBNe, Nat.reduceBEq, IntKind.signed, Nat.reduceEqDiff, Nat.reduceLeDiff, Nat.reduceLT, eq_self, Int.reduceEq, Int.reduceLT, Int.reduceLE, Int.reduceAdd, Int.reduceSub, VC.regC_nil, VC.regC_cons, VC.regCK_eq, VC.callQ, VC.tailQ, VC.goCall, VC.chStep]
          refine ⟨⟨by omega, by omega⟩, ?_⟩
          have hlen0 : (notedL (s.own b) (lk ln k)).length ≤ 1000 := by
            have h7 := open_lk (l := ln) (k := k)
            have h8 := hinv.len f b
            rw [← hln] at h8
            have h9 := noted_le (o := s.own b) (l := lk ln k)
            omega
          refine OPW_appK (v := .slice Al (notedL (s.own b) (lk ln k)).length cl2) (us := [iV x]) rfl Fa.apI23 rfl rfl rfl (by simp [Value.oneCell']) (hH.get 0 rfl) (Nat.zero_le _) (by omega) (by decide) fun v5 w5 ho5 hg5 hst5 => ?_
          have st6 := hH.grown 0 rfl (B' := 0) (n' := (notedL (s.own b) (lk ln (k + 1))).length) (xs' := (notedL (s.own b) (lk ln (k + 1))).map iV) (by
            rw [nn, if_pos ⟨ho, hnk, by omega, hcb⟩, List.length_append, List.map_append]; exact ho5) hg5 hst5
          rw [VC.Now, VC.seqK_eq]
          simp -dsimp (maxSteps := 2000000) only [Fa.F25, VC.Now, VC.vc, VC.lib, VC.mapN_drewN, VC.mapB_drewN, VC.regQ, VC.loopK, VC.reg, VC.opP, VC.opS, VC.opZ, VC.nomulB, VC.pv, VC.thenF, VC.blkF, VC.retF, VC.resV, VC.oneV, VC.evo, VC.bin, VC.binI, VC.cmpI, VC.arithI, VC.ldv, VC.slv, VC.pickP, VC.holds, VC.chainOf, VC.look, VC.junk, VC.put, VC.eff, VC.callee, VC.pureB, VC.rdK, VC.rdKs, VC.okKs, VC.eqKs, VC.fillL, VC.putL, VC.stW, VC.stOK, VC.mixF, VC.setAll, Nat.reduceAdd, Nat.reduceSub, Nat.reduceMul, if_true, if_false, ↓reduceIte, forall_const, implies_true, reduceCtorEq, ne_eq, Nat.reduceBNe, Nat.reduceBEq, IntKind.signed, Nat.reduceEqDiff, Nat.reduceLeDiff, Nat.reduceLT, eq_self, Int.reduceEq, Int.reduceLT, Int.reduceLE, Int.reduceAdd, Int.reduceSub, VC.regC_nil, VC.regC_cons, VC.regCK_eq, VC.callQ, VC.tailQ, VC.goCall, VC.chStep]
          subst hQ
          simp -dsimp (maxSteps := 2000000) only [Fa.F25, VC.Now, VC.vc, VC.lib, VC.mapN_drewN, VC.mapB_drewN, VC.regQ, VC.loopK, VC.reg, VC.opP, VC.opS, VC.opZ, VC.nomulB, VC.pv, VC.thenF, VC.blkF, VC.retF, VC.resV, VC.oneV, VC.evo, VC.bin, VC.binI, VC.cmpI, VC.arithI, VC.ldv, VC.slv, VC.pickP, VC.holds, VC.chainOf, VC.look, VC.junk, VC.put, VC.eff, VC.callee, VC.pureB, VC.rdK, VC.rdKs, VC.okKs, VC.eqKs, VC.fillL, VC.putL, VC.stW, VC.stOK, VC.mixF, VC.setAll, Nat.reduceAdd, Nat.reduceSub, Nat.reduceMul, if_true, if_false, ↓reduceIte, forall_const, implies_true, reduceCtorEq, ne_eq, Nat.reduceBNe, Nat.reduceBEq, IntKind.signed, Nat.reduceEqDiff, Nat.reduceLeDiff, Nat.reduceLT, eq_self, Int.reduceEq, Int.reduceLT, Int.reduceLE, Int.reduceAdd, Int.reduceSub, VC.regC_nil, VC.regC_cons, VC.regCK_eq, VC.callQ, VC.tailQ, VC.goCall, VC.chStep]
          exact ⟨fits_i64_nat (by omega), SAME.intro (by kernel_rfl), m4 - 1, by omega, k + 1, v5, by omega, by rw [hmn1, hcb]; rfl, hBx.trans (st6.below hH), st6.hp⟩
      obtain rfl : k = ln.come := by omega
      have e11 : ((ln.come : Int) < (ln.come : Int)) = False := eq_false (by omega)
      subst hQ5
      rename_i z1 z2 z3 z4 z5
      clear z5
      revert A c0 A2 cap m g w wa rb wb ob w4 gl y1 u2 y2 n gm cm go co mm u3 z1 t q vc codes s wy Q3 m2 u4 z2 f z3 z4 Q4 m3 u5 wx b bv rv As cs w5 lb ln mk m4 u6 wr lv
      exact HH.1.1
    obtain rfl : b = n := by omega
    have e10 : ((b : Int) < b) = False := eq_false (by omega)
    subst hQ4
    have ekn : f * b + b = (f + 1) * b := by rw [Nat.succ_mul]
    rw [ekn] at hH
    simp -dsimp (maxSteps := 2000000) only [Fa.F25, e10, VC.Now, VC.vc, VC.lib, VC.mapN_drewN, VC.mapB_drewN, VC.regQ, VC.loopK, VC.reg, VC.opP, VC.opS, VC.opZ, VC.nomulB, VC.pv, VC.thenF, VC.blkF, VC.retF, VC.resV, VC.oneV, VC.evo, VC.bin, VC.binI, VC.cmpI, VC.arithI, VC.ldv, VC.slv, VC.pickP, VC.holds, VC.chainOf, VC.look, VC.junk, VC.put, VC.eff, VC.callee, VC.pureB, VC.rdK, VC.rdKs, VC.okKs, VC.eqKs, VC.fillL, VC.putL, VC.stW, VC.stOK, VC.mixF, VC.setAll, Nat.reduceAdd, Nat.reduceSub, Nat.reduceMul, if_true, if_false, ↓reduceIte, forall_const, implies_true, reduceCtorEq, ne_eq, Nat.reduceBNe, Nat.reduceBEq, IntKind.signed, Nat.reduceEqDiff, Nat.reduceLeDiff, Nat.reduceLT, eq_self, Int.reduceEq, Int.reduceLT, Int.reduceLE, Int.reduceAdd, Int.reduceSub, VC.regC_nil, VC.regC_cons, VC.regCK_eq, VC.callQ, VC.tailQ, VC.goCall, VC.chStep]
    exact ⟨fits_i64_nat (by omega), SAME.intro (by kernel_rfl), m2 - 1, by omega, f + 1, bv, rv, by omega, rfl, hBx, hH⟩
  obtain rfl : f = n := by omega
  have e9 : ((f : Int) < f) = False := eq_false (by omega)
  subst hQ3
  rename_i z1
  revert A c0 A2 cap m g w wa rb wb ob w4 gl y1 u2 y2 gm cm go co mm u3 z1 t q vc codes s wy m2 u4 wx f bv rv
  exact HH.2.1
end Go.Proofs.Ytelfmhiaafkimaa
