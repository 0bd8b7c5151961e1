/- One word for all, the document: what each holds true; its whole run. -/
import Derived.Test.YtelfmhiaafkimaaBraD6
namespace Go.Proofs.Ytelfmhiaafkimaa
open Go Go.RowKit Go.VC
set_option linter.unusedSimpArgs false
set_option linter.unusedVariables false
set_option maxRecDepth 8000 in
set_option maxHeartbeats 8000000 in
theorem braD_rest : braDBut.1 := by
  unfold braDBut
  refine ⟨?_, trivial⟩
  intro n f liars sender A2 cap g w h1 hn hs hf hl wa rb hrb w1 sb w2 b7 mm u9 wz t va vk vc hBx hH hok hlen
  have e8 : ((t : Int) < t) = False := eq_false (by omega)
  have hcl : ((List.range t).map (bcode n f liars sender g)).length = t := by simp
  have hce : bcodes n f liars sender g t = ((List.range t).map (bcode n f liars sender g)).map (Value.int .i64) := by unfold bcodes; rw [List.map_map]; rfl
  rw [hce] at hH
  have hall := hok.all_le hn
  generalize (List.range t).map (bcode n f liars sender g) = codes at *
  generalize bst n f liars sender g t = s at *
  have hkc : ∀ k ∈ s.came, k < s.all.length := fun k hk => (hok.cin k hk).1
  have hcml : s.came.length ≤ s.all.length := by rw [hok.many]; exact List.countP_le_length
  simp -dsimp (maxSteps := 2000000) only [Fa.F38, e8, VC.Now, VC.vc, VC.lib, VC.mapN_drewN, VC.mapB_drewN, VC.regQ, VC.loopK, VC.reg, VC.opP, VC.opS, VC.opZ, VC.nomulB, VC.pv, VC.thenF, VC.blkF, VC.retF, VC.resV, VC.oneV, VC.evo, VC.bin, VC.binI, VC.cmpI, VC.arithI, VC.ldv, VC.slv, VC.pickP, VC.holds, VC.chainOf, VC.look, VC.junk, VC.put, VC.eff, VC.callee, VC.pureB, VC.rdK, VC.rdKs, VC.okKs, VC.eqKs, VC.fillL, VC.putL, VC.stW, VC.stOK, VC.mixF, VC.setAll, Nat.reduceAdd, Nat.reduceSub, Nat.reduceMul, if_true, if_false, ↓reduceIte, forall_const, implies_true, reduceCtorEq, ne_eq, Nat.reduceBNe, Nat.reduceBEq, IntKind.signed, Nat.reduceEqDiff, Nat.reduceLeDiff, Nat.reduceLT, eq_self, Int.reduceEq, Int.reduceLT, Int.reduceLE, Int.reduceAdd, Int.reduceSub, VC.regC_nil, VC.regC_cons, VC.regCK_eq, VC.callQ, VC.tailQ, VC.goCall, VC.chStep]
  have hHl : Hp rb (LD n f liars sender sb t b7 rb s va vk vc nilS nilS codes 0) wz :=
    ((hH.st_add (o := oOwn 2 1 0 nilS []) (Below.refl _ _) (OwnK.nil _ _ _ _) (fun g hg => by cases hg)).hp.st_add (o := oOwn 4 1 0 nilS []) (Below.refl _ _) (OwnK.nil _ _ _ _) (fun g hg => by cases hg)).hp
  refine loop_slots Fa.mix [15] [16, 39, 40, 41, 42, 43, 44, 45, 46, 47, 48, 49, 50, 51, 52, 53, 54, 55, 56, 57, 58, 59, 60, 61, 62, 63, 64, 65, 66, 67, 68, 69] (fun m vs wx => ∃ (j : Nat) (hv vv : Value), j + m = n ∧ vs = [.int .i64 j] ∧ Below rb w wx ∧ Hp rb (LD n f liars sender sb t b7 rb s va vk vc hv vv codes j) wx) n (by kernel_rfl) rfl
    ⟨0, nilS, nilS, by omega, rfl, hBx, hHl⟩ ?_
  clear hHl hH hBx
  rintro m2 vs u4 wx2 ⟨j, hv, vv, hjm, rfl, hBx, hH⟩
  obtain ⟨Ah, cw, rfl, _⟩ := id (hH.get 0 rfl : OwnK wx2 0 4 1 j hv _)
  obtain ⟨Ab, cb, rfl, _⟩ := id (hH.get 1 rfl : OwnK wx2 0 2 1 j vv _)
  by_cases hj : j < n
  · have e9 : ((j : Int) < n) = True := eq_true (by omega)
    obtain ⟨f1, f2, f3⟩ := boxMade wx2 z5m z5m 235 rfl (by intro v hv; simp at hv; rcases hv with rfl | rfl <;> rfl)
    simp -dsimp (maxSteps := 2000000) only [Fa.F38, e9, VC.Now, VC.vc, VC.lib, VC.mapN_drewN, VC.mapB_drewN, VC.regQ, VC.loopK, VC.reg, VC.opP, VC.opS, VC.opZ, VC.nomulB, VC.pv, VC.thenF, VC.blkF, VC.retF, VC.resV, VC.oneV, VC.evo, VC.bin, VC.binI, VC.cmpI, VC.arithI, VC.ldv, VC.slv, VC.pickP, VC.holds, VC.chainOf, VC.look, VC.junk, VC.put, VC.eff, VC.callee, VC.pureB, VC.rdK, VC.rdKs, VC.okKs, VC.eqKs, VC.fillL, VC.putL, VC.mixF, VC.setAll, Nat.reduceAdd, Nat.reduceSub, Nat.reduceMul, if_true, if_false, ↓reduceIte, forall_const, implies_true, reduceCtorEq, ne_eq, Nat.reduceBNe, Nat.reduceBEq, IntKind.signed, Nat.reduceEqDiff, Nat.reduceLeDiff, Nat.reduceLT, eq_self, Int.reduceEq, Int.reduceLT, Int.reduceLE, Int.reduceAdd, Int.reduceSub, VC.regC_nil, VC.regC_cons, VC.regCK_eq, VC.callQ, VC.tailQ, VC.goCall, VC.chStep]
    refine ⟨f1, ?_⟩
    change CALL _ _ _ (stW (wx2.alloc (.cells z5m.toArray 235)) ⟨wx2.heap.size, 0, none⟩ 0 z5m) _
    have aw := Aw.new hH f2 (Nat.le_refl _)
    have hHq := hH.below f3
    have hBq := hBx.trans (f3.mono hH.base)
    have hxrb : rb ≤ wx2.heap.size := hH.base
    clear f1 f2 f3 hH hBx
    generalize stW (wx2.alloc (.cells z5m.toArray 235)) ⟨wx2.heap.size, 0, none⟩ 0 z5m = wq at aw hHq hBq ⊢
    generalize wx2.heap.size = xb at aw hxrb ⊢
    refine CALL_of (bit_any liars j wq hl (by omega)) fun w10 hw10 => ?_
    subst hw10
    rw [VC.Now, VC.seqK_eq]
    cases hli : liars.testBit j with
    | true =>
      have awq : Aw (LD n f liars sender sb t b7 rb s va vk vc (.slice Ah j cw) (.slice Ab j cb) codes j) w10 xb (minL (s.mi j)) := by rw [hok.liar j hli]; exact aw
      rename World => wq
      have bx7 : Box wq b7 [vc, .slice Ah j cw, .slice Ab j cb, iV 0, iV 0] := hHq.get 3 rfl
      have y1 := bx7.at (i := 1) rfl
      have hol := bx7.1
      have x2 := awq.box.at (i := 2) rfl
      have hxl := awq.box.1
      simp -dsimp (maxSteps := 2000000) only [Fa.F38, rdSA_of y1, rdSN_of y1, rdSC_of y1, y1, hol, rdB_of x2, x2, hxl, undef, tu, uf, ul, ur, VC.Now, VC.vc, VC.lib, VC.mapN_drewN, VC.mapB_drewN, VC.regQ, VC.loopK, VC.reg, VC.opP, VC.opS, VC.opZ, VC.nomulB, VC.pv, VC.thenF, VC.blkF, VC.retF, VC.resV, VC.oneV, VC.evo, VC.bin, VC.binI, VC.cmpI, VC.arithI, VC.ldv, VC.slv, VC.pickP, VC.holds, VC.chainOf, VC.look, VC.junk, VC.put, VC.eff, VC.callee, VC.pureB, VC.rdK, VC.rdKs, VC.okKs, VC.eqKs, VC.fillL, VC.putL, VC.stW, VC.stOK, VC.mixF, VC.setAll, Nat.reduceAdd, Nat.reduceSub, Nat.reduceMul, if_true, if_false, ↓reduceIte, forall_const, implies_true, reduceCtorEq, ne_eq, Nat.reduceBNe, Nat.reduceBEq, IntKind.signed, Nat.reduceEqDiff, Nat.reduceLeDiff, Nat.reduceLT, eq_self, Int.reduceEq, Int.reduceLT, Int.reduceLE, Int.reduceAdd, Int.reduceSub, VC.regC_nil, VC.regC_cons, VC.regCK_eq, VC.callQ, VC.tailQ, VC.goCall, VC.chStep]
      refine OPW_appK (us := [.bool (s.mi j).has]) rfl Fa.apI45 rfl rfl rfl (by simp [Value.oneCell']) (hHq.get 0 rfl : OwnK wq 0 4 1 j (.slice Ah j cw) (hasL s j)) (Nat.zero_le _) (by omega) (by decide) fun v7 w7 ho7 hg7 hs7 => ?_
      rw [← hasL_succ] at ho7
      obtain ⟨⟨g1, g2⟩, st7⟩ := hHq.growField 3 0 rfl rfl (by decide) ho7 hg7 hs7 1 (by show 1 < 5; omega)
      obtain ⟨A5, c5, rfl, _⟩ := id ho7
      have hol7 : b7 < w7.heap.size := Nat.lt_of_lt_of_le hol hg7.size
      have aw7 := awq.step st7
      have hH8 : Hp rb ([oOwn 4 1 (j + 1) (.slice A5 (j + 1) c5) (hasL s (j + 1)), oOwn 2 1 j (.slice Ab j cb) (valL s j)] ++ ([oOwn 24 1 t vc (codes.map (Value.int .i64)), oBox b7 [vc, .slice A5 (j + 1) c5, .slice Ab j cb, iV 0, iV 0], oBox rb z5] ++ SObs n f liars sender sb s va vk)) _ := st7.hp
      have hB8 := hBq.trans (st7.below hHq)
      have bx8 : Box _ b7 [vc, .slice A5 (j + 1) c5, .slice Ab j cb, iV 0, iV 0] := hH8.get 3 rfl
      have y2 := bx8.at (i := 2) rfl
      have hol8 := bx8.1
      have x4 := aw7.box.at (i := 4) rfl
      have hxl8 := aw7.box.1
      rw [VC.Now, VC.seqK_eq]
      simp -dsimp (maxSteps := 2000000) only [Fa.F38, hol7, g1, g2, rdSA_of y2, rdSN_of y2, rdSC_of y2, y2, hol8, rdI_of x4, x4, hxl8, undef, tu, uf, ul, ur, VC.Now, VC.vc, VC.lib, VC.mapN_drewN, VC.mapB_drewN, VC.regQ, VC.loopK, VC.reg, VC.opP, VC.opS, VC.opZ, VC.nomulB, VC.pv, VC.thenF, VC.blkF, VC.retF, VC.resV, VC.oneV, VC.evo, VC.bin, VC.binI, VC.cmpI, VC.arithI, VC.ldv, VC.slv, VC.pickP, VC.holds, VC.chainOf, VC.look, VC.junk, VC.put, VC.eff, VC.callee, VC.pureB, VC.rdK, VC.rdKs, VC.okKs, VC.eqKs, VC.fillL, VC.putL, VC.stW, VC.stOK, VC.mixF, VC.setAll, Nat.reduceAdd, Nat.reduceSub, Nat.reduceMul, if_true, if_false, ↓reduceIte, forall_const, implies_true, reduceCtorEq, ne_eq, Nat.reduceBNe, Nat.reduceBEq, IntKind.signed, Nat.reduceEqDiff, Nat.reduceLeDiff, Nat.reduceLT, eq_self, Int.reduceEq, Int.reduceLT, Int.reduceLE, Int.reduceAdd, Int.reduceSub, VC.regC_nil, VC.regC_cons, VC.regCK_eq, VC.callQ, VC.tailQ, VC.goCall, VC.chStep]
      generalize w7.setCell ⟨b7, 1, none⟩ (.slice A5 (j + 1) c5) = w8 at hH8 hB8 ⊢
      refine OPW_appK (us := [iV (s.mi j).value]) rfl Fa.apI86 rfl rfl rfl (by simp [Value.oneCell']) (hH8.get 1 rfl : OwnK w8 0 2 1 j (.slice Ab j cb) (valL s j)) (Nat.zero_le _) (by omega) (by decide) fun v9 w9 ho9 hg9 hs9 => ?_
      rw [← valL_succ] at ho9
      obtain ⟨⟨g3, g4⟩, st9⟩ := hH8.growField 3 1 rfl rfl (by decide) ho9 hg9 hs9 2 (by show 2 < 5; omega)
      obtain ⟨A6, c6, rfl, _⟩ := id ho9
      have hol9 : b7 < w9.heap.size := Nat.lt_of_lt_of_le (hH8.get 3 rfl : Box w8 b7 _).1 hg9.size
      rw [VC.Now, VC.seqK_eq]
      simp -dsimp (maxSteps := 2000000) only [Fa.F38, hol9, g3, g4, undef, tu, uf, ul, ur, VC.Now, VC.vc, VC.lib, VC.mapN_drewN, VC.mapB_drewN, VC.regQ, VC.loopK, VC.reg, VC.opP, VC.opS, VC.opZ, VC.nomulB, VC.pv, VC.thenF, VC.blkF, VC.retF, VC.resV, VC.oneV, VC.evo, VC.bin, VC.binI, VC.cmpI, VC.arithI, VC.ldv, VC.slv, VC.pickP, VC.holds, VC.chainOf, VC.look, VC.junk, VC.put, VC.eff, VC.callee, VC.pureB, VC.rdK, VC.rdKs, VC.okKs, VC.eqKs, VC.fillL, VC.putL, VC.stW, VC.stOK, VC.mixF, VC.setAll, Nat.reduceAdd, Nat.reduceSub, Nat.reduceMul, if_true, if_false, ↓reduceIte, forall_const, implies_true, reduceCtorEq, ne_eq, Nat.reduceBNe, Nat.reduceBEq, IntKind.signed, Nat.reduceEqDiff, Nat.reduceLeDiff, Nat.reduceLT, eq_self, Int.reduceEq, Int.reduceLT, Int.reduceLE, Int.reduceAdd, Int.reduceSub, VC.regC_nil, VC.regC_cons, VC.regCK_eq, VC.callQ, VC.tailQ, VC.goCall, VC.chStep]
      exact ⟨fits_i64_nat (by omega), SAME.intro (by kernel_rfl), m2 - 1, by omega, j + 1, .slice A5 (j + 1) c5, .slice A6 (j + 1) c6, by omega, rfl, hB8.trans (st9.below hH8), st9.hp⟩
    | false =>
      have hS : Hp rb (SObs n f liars sender sb s va vk) w10 := hp_right (hp_right hHq)
      have hmi : mindL n f sender (toL s j) = s.mi j := (hok.mind j hli).symm
      simp -dsimp (maxSteps := 2000000) only [Fa.F38, VC.Now, VC.vc, VC.lib, VC.mapN_drewN, VC.mapB_drewN, VC.regQ, VC.loopK, VC.reg, VC.opP, VC.opS, VC.opZ, VC.nomulB, VC.pv, VC.thenF, VC.blkF, VC.retF, VC.resV, VC.oneV, VC.evo, VC.bin, VC.binI, VC.cmpI, VC.arithI, VC.ldv, VC.slv, VC.pickP, VC.holds, VC.chainOf, VC.look, VC.junk, VC.put, VC.eff, VC.callee, VC.pureB, VC.rdK, VC.rdKs, VC.okKs, VC.eqKs, VC.fillL, VC.putL, VC.stW, VC.stOK, VC.mixF, VC.setAll, Nat.reduceAdd, Nat.reduceSub, Nat.reduceMul, if_true, if_false, ↓reduceIte, forall_const, implies_true, reduceCtorEq, ne_eq, Nat.reduceBNe, Nat.reduceBEq, IntKind.signed, Nat.reduceEqDiff, Nat.reduceLeDiff, Nat.reduceLT, eq_self, Int.reduceEq, Int.reduceLT, Int.reduceLE, Int.reduceAdd, Int.reduceSub, VC.regC_nil, VC.regC_cons, VC.regCK_eq, VC.callQ, VC.tailQ, VC.goCall, VC.chStep]
      refine CALL_by (to_any hS hkc (by omega) j) ?_
      rintro _ w11 ⟨A, c2, rfl, hrd, hp2⟩
      refine ⟨_, rfl, ?_⟩
      rw [VC.Now, VC.seqK_eq]
      simp -dsimp (maxSteps := 2000000) only [Fa.F38, VC.Now, VC.vc, VC.lib, VC.mapN_drewN, VC.mapB_drewN, VC.regQ, VC.loopK, VC.reg, VC.opP, VC.opS, VC.opZ, VC.nomulB, VC.pv, VC.thenF, VC.blkF, VC.retF, VC.resV, VC.oneV, VC.evo, VC.bin, VC.binI, VC.cmpI, VC.arithI, VC.ldv, VC.slv, VC.pickP, VC.holds, VC.chainOf, VC.look, VC.junk, VC.put, VC.eff, VC.callee, VC.pureB, VC.rdK, VC.rdKs, VC.okKs, VC.eqKs, VC.fillL, VC.putL, VC.stW, VC.stOK, VC.mixF, VC.setAll, Nat.reduceAdd, Nat.reduceSub, Nat.reduceMul, if_true, if_false, ↓reduceIte, forall_const, implies_true, reduceCtorEq, ne_eq, Nat.reduceBNe, Nat.reduceBEq, IntKind.signed, Nat.reduceEqDiff, Nat.reduceLeDiff, Nat.reduceLT, eq_self, Int.reduceEq, Int.reduceLT, Int.reduceLE, Int.reduceAdd, Int.reduceSub, VC.regC_nil, VC.regC_cons, VC.regCK_eq, VC.callQ, VC.tailQ, VC.goCall, VC.chStep]
      refine CALL_of (mind_any n f sender A c2 (toL s j) w11 hrd (by have := toL_le s j; omega) hn hf (toL_ok hkc hok.note j)) fun w12 hB12 => ?_
      have hHr := (hHq.below hp2).below hB12
      have hBr := (hBq.trans (hp2.mono hHq.base)).trans (hB12.mono (hHq.below hp2).base)
      have awr := (aw.below hp2).below hB12
      rw [hmi]
      clear hS hrd hp2 hB12 aw
      obtain ⟨ok, bz2⟩ := awr.box.stAll (vs := minL (s.mi j)) rfl (by intro v hv; simp at hv; rcases hv with rfl | rfl | rfl | rfl | rfl <;> rfl)
      have hag : Agree (fun g => g = xb) w12 (stW w12 ⟨xb, 0, none⟩ 0 (minL (s.mi j))) := stW_agree (X := fun g => g = xb) rfl _ _ _
      have hBs := hag.to_below hBr hHr.base fun g hg => by rw [hg]; exact hxrb
      have hHs := hHr.agree hag fun g hg e => awr.no (e ▸ hg)
      have aws : Aw (LD n f liars sender sb t b7 rb s va vk vc (.slice Ah j cw) (.slice Ab j cb) codes j) (stW w12 ⟨xb, 0, none⟩ 0 (minL (s.mi j))) xb (minL (s.mi j)) := ⟨bz2, awr.no⟩
      rw [VC.Now, VC.seqK_eq]
      simp -dsimp (maxSteps := 2000000) only [Fa.F38, VC.Now, VC.vc_skip, VC.vc_ret, VC.vc_exit, VC.vc_block, VC.vc_cond, VC.vc_region, VC.lib, VC.mapN_drewN, VC.mapB_drewN, VC.regQ, VC.loopK, VC.reg, VC.opP, VC.opS, VC.opZ, VC.nomulB, VC.pv, VC.thenF, VC.blkF, VC.retF, VC.resV, VC.oneV, VC.evo, VC.bin, VC.binI, VC.cmpI, VC.arithI, VC.ldv, VC.slv, VC.pickP, VC.holds, VC.chainOf, VC.look, VC.junk, VC.put, VC.eff, VC.callee, VC.pureB, VC.rdK, VC.rdKs, VC.okKs, VC.eqKs, VC.fillL, VC.putL, VC.mixF, VC.setAll, Nat.reduceAdd, Nat.reduceSub, Nat.reduceMul, if_true, if_false, ↓reduceIte, forall_const, implies_true, reduceCtorEq, ne_eq, Nat.reduceBNe, Nat.reduceBEq, IntKind.signed, Nat.reduceEqDiff, Nat.reduceLeDiff, Nat.reduceLT, eq_self, Int.reduceEq, Int.reduceLT, Int.reduceLE, Int.reduceAdd, Int.reduceSub, VC.regC_nil, VC.regC_cons, VC.regCK_eq, VC.callQ, VC.tailQ, VC.goCall, VC.chStep]
      refine ⟨ok, ?_⟩
      change VC.vc _ _ _ _ _ _ (stW w12 ⟨xb, 0, none⟩ 0 (minL (s.mi j)))
      clear ok bz2 hag hHq hBq hHr hBr awr
      generalize stW w12 ⟨xb, 0, none⟩ 0 (minL (s.mi j)) = wq at hBs hHs aws ⊢
      have hHq := hHs
      have hBq := hBs
      have awq := aws
      have bx7 : Box wq b7 [vc, .slice Ah j cw, .slice Ab j cb, iV 0, iV 0] := hHq.get 3 rfl
      have y1 := bx7.at (i := 1) rfl
      have hol := bx7.1
      have x2 := awq.box.at (i := 2) rfl
      have hxl := awq.box.1
      simp -dsimp (maxSteps := 2000000) only [Fa.F38, rdSA_of y1, rdSN_of y1, rdSC_of y1, y1, hol, rdB_of x2, x2, hxl, undef, tu, uf, ul, ur, VC.Now, VC.vc, VC.lib, VC.mapN_drewN, VC.mapB_drewN, VC.regQ, VC.loopK, VC.reg, VC.opP, VC.opS, VC.opZ, VC.nomulB, VC.pv, VC.thenF, VC.blkF, VC.retF, VC.resV, VC.oneV, VC.evo, VC.bin, VC.binI, VC.cmpI, VC.arithI, VC.ldv, VC.slv, VC.pickP, VC.holds, VC.chainOf, VC.look, VC.junk, VC.put, VC.eff, VC.callee, VC.pureB, VC.rdK, VC.rdKs, VC.okKs, VC.eqKs, VC.fillL, VC.putL, VC.stW, VC.stOK, VC.mixF, VC.setAll, Nat.reduceAdd, Nat.reduceSub, Nat.reduceMul, if_true, if_false, ↓reduceIte, forall_const, implies_true, reduceCtorEq, ne_eq, Nat.reduceBNe, Nat.reduceBEq, IntKind.signed, Nat.reduceEqDiff, Nat.reduceLeDiff, Nat.reduceLT, eq_self, Int.reduceEq, Int.reduceLT, Int.reduceLE, Int.reduceAdd, Int.reduceSub, VC.regC_nil, VC.regC_cons, VC.regCK_eq, VC.callQ, VC.tailQ, VC.goCall, VC.chStep]
      refine OPW_appK (us := [.bool (s.mi j).has]) rfl Fa.apI45 rfl rfl rfl (by simp [Value.oneCell']) (hHq.get 0 rfl : OwnK wq 0 4 1 j (.slice Ah j cw) (hasL s j)) (Nat.zero_le _) (by omega) (by decide) fun v7 w7 ho7 hg7 hs7 => ?_
      rw [← hasL_succ] at ho7
      obtain ⟨⟨g1, g2⟩, st7⟩ := hHq.growField 3 0 rfl rfl (by decide) ho7 hg7 hs7 1 (by show 1 < 5; omega)
      obtain ⟨A5, c5, rfl, _⟩ := id ho7
      have hol7 : b7 < w7.heap.size := Nat.lt_of_lt_of_le hol hg7.size
      have aw7 := awq.step st7
      have hH8 : Hp rb ([oOwn 4 1 (j + 1) (.slice A5 (j + 1) c5) (hasL s (j + 1)), oOwn 2 1 j (.slice Ab j cb) (valL s j)] ++ ([oOwn 24 1 t vc (codes.map (Value.int .i64)), oBox b7 [vc, .slice A5 (j + 1) c5, .slice Ab j cb, iV 0, iV 0], oBox rb z5] ++ SObs n f liars sender sb s va vk)) _ := st7.hp
      have hB8 := hBq.trans (st7.below hHq)
      have bx8 : Box _ b7 [vc, .slice A5 (j + 1) c5, .slice Ab j cb, iV 0, iV 0] := hH8.get 3 rfl
      have y2 := bx8.at (i := 2) rfl
      have hol8 := bx8.1
      have x4 := aw7.box.at (i := 4) rfl
      have hxl8 := aw7.box.1
      rw [VC.Now, VC.seqK_eq]
      simp -dsimp (maxSteps := 2000000) only [Fa.F38, hol7, g1, g2, rdSA_of y2, rdSN_of y2, rdSC_of y2, y2, hol8, rdI_of x4, x4, hxl8, undef, tu, uf, ul, ur, VC.Now, VC.vc, VC.lib, VC.mapN_drewN, VC.mapB_drewN, VC.regQ, VC.loopK, VC.reg, VC.opP, VC.opS, VC.opZ, VC.nomulB, VC.pv, VC.thenF, VC.blkF, VC.retF, VC.resV, VC.oneV, VC.evo, VC.bin, VC.binI, VC.cmpI, VC.arithI, VC.ldv, VC.slv, VC.pickP, VC.holds, VC.chainOf, VC.look, VC.junk, VC.put, VC.eff, VC.callee, VC.pureB, VC.rdK, VC.rdKs, VC.okKs, VC.eqKs, VC.fillL, VC.putL, VC.stW, VC.stOK, VC.mixF, VC.setAll, Nat.reduceAdd, Nat.reduceSub, Nat.reduceMul, if_true, if_false, ↓reduceIte, forall_const, implies_true, reduceCtorEq, ne_eq, Nat.reduceBNe, Nat.reduceBEq, IntKind.signed, Nat.reduceEqDiff, Nat.reduceLeDiff, Nat.reduceLT, eq_self, Int.reduceEq, Int.reduceLT, Int.reduceLE, Int.reduceAdd, Int.reduceSub, VC.regC_nil, VC.regC_cons, VC.regCK_eq, VC.callQ, VC.tailQ, VC.goCall, VC.chStep]
      generalize w7.setCell ⟨b7, 1, none⟩ (.slice A5 (j + 1) c5) = w8 at hH8 hB8 ⊢
      refine OPW_appK (us := [iV (s.mi j).value]) rfl Fa.apI86 rfl rfl rfl (by simp [Value.oneCell']) (hH8.get 1 rfl : OwnK w8 0 2 1 j (.slice Ab j cb) (valL s j)) (Nat.zero_le _) (by omega) (by decide) fun v9 w9 ho9 hg9 hs9 => ?_
      rw [← valL_succ] at ho9
      obtain ⟨⟨g3, g4⟩, st9⟩ := hH8.growField 3 1 rfl rfl (by decide) ho9 hg9 hs9 2 (by show 2 < 5; omega)
      obtain ⟨A6, c6, rfl, _⟩ := id ho9
      have hol9 : b7 < w9.heap.size := Nat.lt_of_lt_of_le (hH8.get 3 rfl : Box w8 b7 _).1 hg9.size
      rw [VC.Now, VC.seqK_eq]
      simp -dsimp (maxSteps := 2000000) only [Fa.F38, hol9, g3, g4, undef, tu, uf, ul, ur, VC.Now, VC.vc, VC.lib, VC.mapN_drewN, VC.mapB_drewN, VC.regQ, VC.loopK, VC.reg, VC.opP, VC.opS, VC.opZ, VC.nomulB, VC.pv, VC.thenF, VC.blkF, VC.retF, VC.resV, VC.oneV, VC.evo, VC.bin, VC.binI, VC.cmpI, VC.arithI, VC.ldv, VC.slv, VC.pickP, VC.holds, VC.chainOf, VC.look, VC.junk, VC.put, VC.eff, VC.callee, VC.pureB, VC.rdK, VC.rdKs, VC.okKs, VC.eqKs, VC.fillL, VC.putL, VC.stW, VC.stOK, VC.mixF, VC.setAll, Nat.reduceAdd, Nat.reduceSub, Nat.reduceMul, if_true, if_false, ↓reduceIte, forall_const, implies_true, reduceCtorEq, ne_eq, Nat.reduceBNe, Nat.reduceBEq, IntKind.signed, Nat.reduceEqDiff, Nat.reduceLeDiff, Nat.reduceLT, eq_self, Int.reduceEq, Int.reduceLT, Int.reduceLE, Int.reduceAdd, Int.reduceSub, VC.regC_nil, VC.regC_cons, VC.regCK_eq, VC.callQ, VC.tailQ, VC.goCall, VC.chStep]
      exact ⟨fits_i64_nat (by omega), SAME.intro (by kernel_rfl), m2 - 1, by omega, j + 1, .slice A5 (j + 1) c5, .slice A6 (j + 1) c6, by omega, rfl, hB8.trans (st9.below hH8), st9.hp⟩
  · obtain rfl : j = n := by omega
    have e9 : ((j : Int) < j) = False := eq_false (by omega)
    have ho : OwnK wx2 0 280 5 s.all.length va (s.all.flatMap noteL) := hH.get 6 rfl
    obtain ⟨Av, cv, rfl, _⟩ := id ho
    have hoc : OwnK wx2 0 3 1 s.came.length vk (s.came.map fun (k : Nat) => iV k) := hH.get 7 rfl
    obtain ⟨Ak, ck, rfl, _⟩ := id hoc
    have bw : Box wx2 sb (spreC j f liars sender (.slice Av s.all.length cv) (.slice Ak s.came.length ck) s.started) := hH.get 5 rfl
    have x4 := bw.at (i := 4) rfl
    have hwl := bw.1
    have bx7 : Box wx2 b7 _ := hH.get 3 rfl
    have g3 : (wx2.cell? ⟨b7, 3, none⟩).isSome = true := Option.isSome_iff_exists.2 ⟨_, bx7.at (i := 3) rfl⟩
    have f3 := bx7.soft (i := 3) (by show 3 < 5; omega)
    have hl7 := bx7.1
    (repeat rw [vc_seq]); refine vc_plain _ fun Q hQ => ?_; simp -dsimp (maxSteps := 2000000) only [Fa.F38, e9, VC.Now, VC.vc_skip, VC.vc_ret, VC.vc_exit, VC.vc_block, VC.vc_cond, VC.vc_region, VC.lib, VC.mapN_drewN, VC.mapB_drewN, VC.regQ, VC.loopK, VC.reg, VC.opP, VC.opS, VC.opZ, VC.nomulB, VC.pv, VC.thenF, VC.blkF, VC.retF, VC.resV, VC.oneV, VC.evo, VC.bin, VC.binI, VC.cmpI, VC.arithI, VC.ldv, VC.slv, VC.pickP, VC.holds, VC.chainOf, VC.look, VC.junk, VC.put, VC.eff, VC.callee, VC.pureB, VC.rdK, VC.rdKs, VC.okKs, VC.eqKs, VC.fillL, VC.putL, VC.stW, VC.stOK, VC.mixF, VC.setAll, Nat.reduceAdd, Nat.reduceSub, Nat.reduceMul, if_true, if_false, ↓reduceIte, forall_const, implies_true, reduceCtorEq, ne_eq, Nat.reduceBNe, Nat.reduceBEq, IntKind.signed, Nat.reduceEqDiff, Nat.reduceLeDiff, Nat.reduceLT, eq_self, Int.reduceEq, Int.reduceLT, Int.reduceLE, Int.reduceAdd, Int.reduceSub, VC.regC_nil, VC.regC_cons, VC.regCK_eq, VC.callQ, VC.tailQ, VC.goCall, VC.chStep]
    subst hQ
    simp -dsimp (maxSteps := 2000000) only [Fa.F38, VC.Now, VC.vc_skip, VC.vc_ret, VC.vc_exit, VC.vc_block, VC.vc_cond, VC.vc_region, VC.lib, VC.mapN_drewN, VC.mapB_drewN, VC.regQ, VC.loopK, VC.reg, VC.opP, VC.opS, VC.opZ, VC.nomulB, VC.pv, VC.thenF, VC.blkF, VC.retF, VC.resV, VC.oneV, VC.evo, VC.bin, VC.binI, VC.cmpI, VC.arithI, VC.ldv, VC.slv, VC.pickP, VC.holds, VC.chainOf, VC.look, VC.junk, VC.put, VC.eff, VC.callee, VC.pureB, VC.rdK, VC.rdKs, VC.okKs, VC.eqKs, VC.fillL, VC.putL, VC.stW, VC.stOK, VC.mixF, VC.setAll, Nat.reduceAdd, Nat.reduceSub, Nat.reduceMul, if_true, if_false, ↓reduceIte, forall_const, implies_true, reduceCtorEq, ne_eq, Nat.reduceBNe, Nat.reduceBEq, IntKind.signed, Nat.reduceEqDiff, Nat.reduceLeDiff, Nat.reduceLT, eq_self, Int.reduceEq, Int.reduceLT, Int.reduceLE, Int.reduceAdd, Int.reduceSub, VC.regC_nil, VC.regC_cons, VC.regCK_eq, VC.callQ, VC.tailQ, VC.goCall, VC.chStep]
    (repeat rw [vc_seq])
    simp -dsimp (maxSteps := 2000000) only [Fa.F38, rdSA_of x4, rdSN_of x4, rdSC_of x4, x4, hwl, g3, f3, hl7, VC.Now, VC.vc_skip, VC.vc_ret, VC.vc_exit, VC.vc_block, VC.vc_cond, VC.vc_region, VC.lib, VC.mapN_drewN, VC.mapB_drewN, VC.regQ, VC.loopK, VC.reg, VC.opP, VC.opS, VC.opZ, VC.nomulB, VC.pv, VC.thenF, VC.blkF, VC.retF, VC.resV, VC.oneV, VC.evo, VC.bin, VC.binI, VC.cmpI, VC.arithI, VC.ldv, VC.slv, VC.pickP, VC.holds, VC.chainOf, VC.look, VC.junk, VC.put, VC.eff, VC.callee, VC.pureB, VC.rdK, VC.rdKs, VC.okKs, VC.eqKs, VC.fillL, VC.putL, VC.stW, VC.stOK, VC.mixF, VC.setAll, Nat.reduceAdd, Nat.reduceSub, Nat.reduceMul, if_true, if_false, ↓reduceIte, forall_const, implies_true, reduceCtorEq, ne_eq, Nat.reduceBNe, Nat.reduceBEq, IntKind.signed, Nat.reduceEqDiff, Nat.reduceLeDiff, Nat.reduceLT, eq_self, Int.reduceEq, Int.reduceLT, Int.reduceLE, Int.reduceAdd, Int.reduceSub, VC.regC_nil, VC.regC_cons, VC.regCK_eq, VC.callQ, VC.tailQ, VC.goCall, VC.chStep]
    have st1 := hH.setBox 3 rfl 3 (iV s.all.length)
    have hH5 := st1.hp
    have hB5 := hBx.trans (st1.below hH)
    clear st1 ho hoc bw x4 hwl bx7 g3 f3 hl7 hH hBx
    generalize wx2.setCell ⟨b7, 3, none⟩ (iV s.all.length) = w5 at hH5 hB5 ⊢
    have bw : Box w5 sb (spreC j f liars sender (.slice Av s.all.length cv) (.slice Ak s.came.length ck) s.started) := hH5.get 5 rfl
    have x4 := bw.at (i := 4) rfl
    have x5 := bw.at (i := 5) rfl
    have hwl := bw.1
    (repeat rw [vc_seq]); refine vc_plain _ fun Q hQ => ?_; simp -dsimp (maxSteps := 2000000) only [Fa.F38, VC.Now, VC.vc_skip, VC.vc_ret, VC.vc_exit, VC.vc_block, VC.vc_cond, VC.vc_region, VC.lib, VC.mapN_drewN, VC.mapB_drewN, VC.regQ, VC.loopK, VC.reg, VC.opP, VC.opS, VC.opZ, VC.nomulB, VC.pv, VC.thenF, VC.blkF, VC.retF, VC.resV, VC.oneV, VC.evo, VC.bin, VC.binI, VC.cmpI, VC.arithI, VC.ldv, VC.slv, VC.pickP, VC.holds, VC.chainOf, VC.look, VC.junk, VC.put, VC.eff, VC.callee, VC.pureB, VC.rdK, VC.rdKs, VC.okKs, VC.eqKs, VC.fillL, VC.putL, VC.stW, VC.stOK, VC.mixF, VC.setAll, Nat.reduceAdd, Nat.reduceSub, Nat.reduceMul, if_true, if_false, ↓reduceIte, forall_const, implies_true, reduceCtorEq, ne_eq, Nat.reduceBNe, Nat.reduceBEq, IntKind.signed, Nat.reduceEqDiff, Nat.reduceLeDiff, Nat.reduceLT, eq_self, Int.reduceEq, Int.reduceLT, Int.reduceLE, Int.reduceAdd, Int.reduceSub, VC.regC_nil, VC.regC_cons, VC.regCK_eq, VC.callQ, VC.tailQ, VC.goCall, VC.chStep]
    refine WP_tail 12 Fa.mix (by kernel_rfl) (by kernel_rfl) (by kernel_rfl) rfl ?_
    simp -dsimp (maxSteps := 2000000) only [Fa.F38, rdSA_of x4, rdSN_of x4, rdSC_of x4, x4, rdSA_of x5, rdSN_of x5, rdSC_of x5, x5, hwl, VC.Now, VC.vc_skip, VC.vc_ret, VC.vc_exit, VC.vc_block, VC.vc_cond, VC.vc_region, VC.lib, VC.mapN_drewN, VC.mapB_drewN, VC.regQ, VC.loopK, VC.reg, VC.opP, VC.opS, VC.opZ, VC.nomulB, VC.pv, VC.thenF, VC.blkF, VC.retF, VC.resV, VC.oneV, VC.evo, VC.bin, VC.binI, VC.cmpI, VC.arithI, VC.ldv, VC.slv, VC.pickP, VC.holds, VC.chainOf, VC.look, VC.junk, VC.put, VC.eff, VC.callee, VC.pureB, VC.rdK, VC.rdKs, VC.okKs, VC.eqKs, VC.fillL, VC.putL, VC.stW, VC.stOK, VC.mixF, VC.setAll, Nat.reduceAdd, Nat.reduceSub, Nat.reduceMul, if_true, if_false, ↓reduceIte, forall_const, implies_true, reduceCtorEq, ne_eq, Nat.reduceBNe, Nat.reduceBEq, IntKind.signed, Nat.reduceEqDiff, Nat.reduceLeDiff, Nat.reduceLT, eq_self, Int.reduceEq, Int.reduceLT, Int.reduceLE, Int.reduceAdd, Int.reduceSub, VC.regC_nil, VC.regC_cons, VC.regCK_eq, VC.callQ, VC.tailQ, VC.goCall, VC.chStep]
    have esub : (s.all.length : Int) - (s.came.length : Int) = ((s.all.length - s.came.length : Nat) : Int) := by omega
    rw [esub]
    refine ⟨fits_i64 (by omega) (by omega), fun w7 hB57 => ?_⟩
    have hH7 := hH5.below hB57
    have hB7 := hB5.trans (hB57.mono hH5.base)
    have bx7 : Box w7 b7 _ := hH7.get 3 rfl
    have g4 : (w7.cell? ⟨b7, 4, none⟩).isSome = true := Option.isSome_iff_exists.2 ⟨_, bx7.at (i := 4) rfl⟩
    have f4 := bx7.soft (i := 4) (by show 4 < 5; omega)
    refine ⟨⟨g4, f4⟩, ?_⟩
    have st8 := hH7.setBox 3 rfl 4 (iV ((s.all.length - s.came.length : Nat) : Int))
    have hH8 := st8.hp
    have hB8 := hB7.trans (st8.below hH7)
    clear st8 bx7 g4 f4 hH7 hB7 hB57 hH5 hB5 bw x4 x5 hwl
    generalize w7.setCell ⟨b7, 4, none⟩ (.int .i64 ((s.all.length - s.came.length : Nat) : Int)) = w8 at hH8 hB8 ⊢
    obtain ⟨Ac, cc, rfl, _⟩ := id (hH8.get 2 rfl : OwnK w8 0 24 1 t vc _)
    have bo : Box w8 b7 [.slice Ac t cc, .slice Ah j cw, .slice Ab j cb, iV s.all.length, iV ((s.all.length - s.came.length : Nat) : Int)] := hH8.get 3 rfl
    have b0 := bo.at (i := 0) rfl
    have b1 := bo.at (i := 1) rfl
    have b2 := bo.at (i := 2) rfl
    have b3 := bo.at (i := 3) rfl
    have b4 := bo.at (i := 4) rfl
    have hol := bo.1
    obtain ⟨ok, st2⟩ := hH8.allBox 4 rfl (vs := [.slice Ac t cc, .slice Ah j cw, .slice Ab j cb, iV s.all.length, iV ((s.all.length - s.came.length : Nat) : Int)]) rfl (by intro v hv; simp at hv; rcases hv with rfl | rfl | rfl | rfl | rfl <;> rfl)
    have rb5 : Box _ rb [.slice Ac t cc, .slice Ah j cw, .slice Ab j cb, iV s.all.length, iV ((s.all.length - s.came.length : Nat) : Int)] := st2.hp.get 4 rfl
    have t0 := rb5.at (i := 0) rfl
    have t1 := rb5.at (i := 1) rfl
    have t2 := rb5.at (i := 2) rfl
    have t3 := rb5.at (i := 3) rfl
    have t4 := rb5.at (i := 4) rfl
    subst hQ
    simp -dsimp (maxSteps := 2000000) only [Fa.F38, hol, rdSA_of b0, rdSN_of b0, rdSC_of b0, b0, rdSA_of b1, rdSN_of b1, rdSC_of b1, b1, rdSA_of b2, rdSN_of b2, rdSC_of b2, b2, rdI_of b3, b3, rdI_of b4, b4, rdSA_of t0, rdSN_of t0, rdSC_of t0, t0, rdSA_of t1, rdSN_of t1, rdSC_of t1, t1, rdSA_of t2, rdSN_of t2, rdSC_of t2, t2, rdI_of t3, t3, rdI_of t4, t4, VC.Now, VC.vc, VC.lib, VC.mapN_drewN, VC.mapB_drewN, VC.regQ, VC.loopK, VC.reg, VC.opP, VC.opS, VC.opZ, VC.nomulB, VC.pv, VC.thenF, VC.blkF, VC.retF, VC.resV, VC.oneV, VC.evo, VC.bin, VC.binI, VC.cmpI, VC.arithI, VC.ldv, VC.slv, VC.pickP, VC.holds, VC.chainOf, VC.look, VC.junk, VC.put, VC.eff, VC.callee, VC.pureB, VC.rdK, VC.rdKs, VC.okKs, VC.eqKs, VC.fillL, VC.putL, VC.mixF, VC.setAll, Nat.reduceAdd, Nat.reduceSub, Nat.reduceMul, if_true, if_false, ↓reduceIte, forall_const, implies_true, reduceCtorEq, ne_eq, Nat.reduceBNe, Nat.reduceBEq, IntKind.signed, Nat.reduceEqDiff, Nat.reduceLeDiff, Nat.reduceLT, eq_self, Int.reduceEq, Int.reduceLT, Int.reduceLE, Int.reduceAdd, Int.reduceSub, VC.regC_nil, VC.regC_cons, VC.regCK_eq, VC.callQ, VC.tailQ, VC.goCall, VC.chStep]
    have hfin : ∀ w'', Agree (fun j => j < w.heap.size) (stW w8 ⟨rb, 0, none⟩ 0 [.slice Ac t cc, .slice Ah j cw, .slice Ab j cb, iV s.all.length, iV ((s.all.length - s.came.length : Nat) : Int)]) w'' → TolQ j t codes s (.agg #[.slice Ac t cc, .slice Ah j cw, .slice Ab j cb, iV s.all.length, iV ((s.all.length - s.came.length : Nat) : Int)]) w'' := fun w'' hA => by
      have hp2 := st2.hp.agree hA (fun g hg hx => by have := (st2.hp.foot_lt hg).1; omega)
      have q0 := (hp2.get 2 rfl : OwnK _ 0 24 1 t _ _)
      have q1 := (hp2.get 0 rfl : OwnK _ 0 4 1 j _ (hasL s j))
      have q2 := (hp2.get 1 rfl : OwnK _ 0 2 1 j _ (valL s j))
      exact ⟨Ac, cc, Ah, cw, Ab, cb, rfl, hcl, q0.rd.2, by rw [List.map_map]; exact q1.rd.2, by rw [List.map_map]; exact q2.rd.2⟩
    refine ⟨ok, ?_⟩
    first
      | exact ⟨_, rfl, hfin, by rw [hrb]; exact hB8.trans (st2.below hH8)⟩
      | exact ⟨hfin, by rw [hrb]; exact hB8.trans (st2.below hH8)⟩
/-- The document's whole run. -/
theorem braD_any (n f liars sender : Nat) (A2 : Option Addr) (len cap : Nat) (g : Nat → SprC) (w : World) (hr : RdT w A2 len 6 (fun i => sprL (g i))) (hgf : ∀ i, fits .i64 (g i).n) (h1 : 1 ≤ n) (hn : n ≤ 7) (hf : f ≤ (n - 1) / 3) (hl : liars < 2 ^ n) (hs : sender < n) (hlen : len ≤ 120) :
    Calls Try.prog 38 #[iV n, iV f, .int .u32 liars, iV sender, .slice A2 len cap] w fun e w' => ∃ v, e = .returned v ∧ (∀ w'', Agree (fun j => j < w.heap.size) w' w'' → TolQ n len ((List.range len).map (bcode n f liars sender g)) (bst n f liars sender g len) v w'') ∧ Below w.heap.size w w' :=
  braDBut.2 braD_rest n f liars sender A2 len cap g w hr hgf h1 hn hf hl hs hlen
end Go.Proofs.Ytelfmhiaafkimaa
