/- One word for all: what each holds true, how many there are; the program's whole run. -/
import Derived.Test.YtelfmhiaafkimaaBra6
import Derived.Test.YtelfmhiaafkimaaApps
namespace Go.Proofs.Ytelfmhiaafkimaa
open Go Go.RowKit Go.VC
set_option linter.unusedSimpArgs false
set_option linter.unusedVariables false
abbrev hasL (s : BS) (j : Nat) : List Value := (List.range j).map fun i => .bool (s.mi i).has
abbrev valL (s : BS) (j : Nat) : List Value := (List.range j).map fun i => iV (s.mi i).value
theorem hasL_succ (s : BS) (j : Nat) : hasL s (j + 1) = hasL s j ++ [.bool (s.mi j).has] := by unfold hasL; rw [List.range_succ, List.map_append]; rfl
theorem valL_succ (s : BS) (j : Nat) : valL s (j + 1) = valL s j ++ [iV (s.mi j).value] := by unfold valL; rw [List.range_succ, List.map_append]; rfl
theorem away_eq {n f liars : Nat} {sender : Int} {t : Nat} {s : BS} (h : BOK n f liars sender t s) : awayN s.all s.all.length = s.all.length - s.came.length := by
  unfold awayN
  rw [List.take_length, h.many]
  have := List.length_eq_countP_add_countP (fun x : Note => x.come) (l := s.all)
  have e : s.all.countP (fun x => !x.come) = s.all.countP (fun x => decide ¬ (x.come = true)) := List.countP_congr fun x _ => by cases x.come <;> simp
  rw [e]
  omega
noncomputable abbrev LEnd (n f liars sender t b7 rb : Nat) (a : BA) (s : BS) (va vc hv vv : Value) (codes : List Int) (j : Nat) : List Ob :=
  [oOwn 4 1 j hv (hasL s j), oOwn 2 1 j vv (valL s j)] ++ ([oOwn 24 1 t vc (codes.map (Value.int .i64)), oBox b7 [vc, hv, vv, iV 0, iV 0], oBox rb z5] ++ BObs n f liars sender a s va)
set_option maxRecDepth 8000 in
set_option maxHeartbeats 8000000 in
theorem bra_rest : braBut.1 := by
  unfold braBut
  refine ⟨?_, trivial⟩
  intro f liars sender A2 cap g w wa rb hrb u1 u2 u3 w1 wb mm u4 wx n mb h1 hn hs pg pc w9 b7 mm2 u9 wz t va vc hBx hH hok hlen
  have e8 : ((t : Int) < t) = False := eq_false (by omega)
  have hcl : ((List.range t).map (bcode n f liars sender g)).length = t := by simp
  have hce : bcodes n f liars sender g t = ((List.range t).map (bcode n f liars sender g)).map (Value.int .i64) := by unfold bcodes; rw [List.map_map]; rfl
  rw [hce] at hH
  have haway := away_eq hok
  have hall := hok.all_le hn
  generalize (List.range t).map (bcode n f liars sender g) = codes at *
  generalize bst n f liars sender g t = s at *
  generalize ha : (⟨wb, pg, pc, mb⟩ : BA) = a at hH
  have haw : wb = a.wb := by rw [← ha]
  subst haw
  have bw : Box wz a.wb (worldC n f liars sender a va s.started) := hH.get 3 rfl
  have x5 := bw.at (i := 5) rfl
  have hwl := bw.1
  simp -dsimp (maxSteps := 2000000) only [Fa.F36, e8, rdSA_of x5, rdSN_of x5, rdSC_of x5, x5, hwl, VC.Now, VC.vc, VC.lib, VC.mapN_drewN, VC.mapB_drewN, VC.regQ, VC.loopK, VC.reg, VC.opP, VC.opS, VC.opZ, VC.nomulB, VC.pv, VC.thenF, VC.blkF, VC.retF, VC.resV, VC.oneV, VC.evo, VC.bin, VC.binI, VC.cmpI, VC.arithI, VC.ldv, VC.slv, VC.pickP, VC.holds, VC.chainOf, VC.look, VC.junk, VC.put, VC.eff, VC.callee, VC.pureB, VC.rdK, VC.rdKs, VC.okKs, VC.eqKs, VC.fillL, VC.putL, VC.stW, VC.stOK, VC.mixF, VC.setAll, Nat.reduceAdd, Nat.reduceSub, Nat.reduceMul, if_true, if_false, ↓reduceIte, forall_const, implies_true, reduceCtorEq, ne_eq, Nat.reduceBNe, Nat.reduceBEq, IntKind.signed, Nat.reduceEqDiff, Nat.reduceLeDiff, Nat.reduceLT, eq_self, Int.reduceEq, Int.reduceLT, Int.reduceLE, Int.reduceAdd, Int.reduceSub, VC.regC_nil, VC.regC_cons, VC.regCK_eq, VC.callQ, VC.tailQ, VC.goCall, VC.chStep]
  clear bw x5 hwl
  have hHl : Hp rb (LEnd n f liars sender t b7 rb a s va vc nilS nilS codes 0) wz :=
    ((hH.st_add (o := oOwn 2 1 0 nilS []) (Below.refl _ _) (OwnK.nil _ _ _ _) (fun g hg => by cases hg)).hp.st_add (o := oOwn 4 1 0 nilS []) (Below.refl _ _) (OwnK.nil _ _ _ _) (fun g hg => by cases hg)).hp
  refine loop_slots Fa.mix [96] [17, 97, 98, 99, 100, 101, 102, 103, 104, 105, 106, 107, 108, 109, 110, 111, 112, 113, 114] (fun m vs wx => ∃ (j : Nat) (hv vv : Value), j + m = n ∧ vs = [.int .i64 j] ∧ Below rb w wx ∧ Hp rb (LEnd n f liars sender t b7 rb a s va vc hv vv codes j) wx) n (by kernel_rfl) rfl
    ⟨0, nilS, nilS, by omega, rfl, hBx, hHl⟩ ?_
  clear hHl hH hBx
  rintro m2 vs u4 wx2 ⟨j, hv, vv, hjm, rfl, hBx, hH⟩
  by_cases hj : j < n
  · have e9 : ((j : Int) < n) = True := eq_true (by omega)
    have hR : Recs wx2 a.pg n 5 (fun i => prL (s.mi i) (a.mb i)) := hH.get 7 rfl
    obtain ⟨Aw, cw, rfl, _⟩ := id (hH.get 0 rfl : OwnK wx2 0 4 1 j hv _)
    obtain ⟨Ab, cb, rfl, _⟩ := id (hH.get 1 rfl : OwnK wx2 0 2 1 j vv _)
    have t0 := hR.at hj (j := 0) (by omega) rfl
    have t1 := hR.at hj (j := 1) (by omega) rfl
    have t2 := hR.at hj (j := 2) (by omega) rfl
    have t3 := hR.at hj (j := 3) (by omega) rfl
    have t4 := hR.at hj (j := 4) (by omega) rfl
    have hgl := hR.1
    rw [Nat.add_zero] at t0
    simp -dsimp (maxSteps := 2000000) only [Fa.F36, e9, rdM_of t0, t0, rdB_of t1, t1, rdB_of t2, t2, rdB_of t3, t3, rdI_of t4, t4, hgl, Int.toNat_natCast, Nat.zero_add, VC.Now, VC.vc, VC.lib, VC.mapN_drewN, VC.mapB_drewN, VC.regQ, VC.loopK, VC.reg, VC.opP, VC.opS, VC.opZ, VC.nomulB, VC.pv, VC.thenF, VC.blkF, VC.retF, VC.resV, VC.oneV, VC.evo, VC.bin, VC.binI, VC.cmpI, VC.arithI, VC.ldv, VC.slv, VC.pickP, VC.holds, VC.chainOf, VC.look, VC.junk, VC.put, VC.eff, VC.callee, VC.pureB, VC.rdK, VC.rdKs, VC.okKs, VC.eqKs, VC.fillL, VC.putL, VC.stW, VC.stOK, VC.mixF, VC.setAll, Nat.reduceAdd, Nat.reduceSub, Nat.reduceMul, if_true, if_false, ↓reduceIte, forall_const, implies_true, reduceCtorEq, ne_eq, Nat.reduceBNe, Nat.reduceBEq, IntKind.signed, Nat.reduceEqDiff, Nat.reduceLeDiff, Nat.reduceLT, eq_self, Int.reduceEq, Int.reduceLT, Int.reduceLE, Int.reduceAdd, Int.reduceSub, VC.regC_nil, VC.regC_cons, VC.regCK_eq, VC.callQ, VC.tailQ, VC.goCall, VC.chStep]
    refine ⟨by omega, ?_⟩
    have hsay : Box (wx2.alloc (.cells (prL (s.mi j) (a.mb j)).toArray 221)) wx2.heap.size (prL (s.mi j) (a.mb j)) := Box.new wx2 _ _
    have hBs : Below wx2.heap.size wx2 (wx2.alloc (.cells (prL (s.mi j) (a.mb j)).toArray 221)) := (Below.refl _ _).alloc (Nat.le_refl _) _
    change WP _ _ _ _ _ _ (wx2.alloc (.cells (prL (s.mi j) (a.mb j)).toArray 221))
    generalize wx2.alloc (.cells (prL (s.mi j) (a.mb j)).toArray 221) = wy at hsay hBs ⊢
    have hHy := hH.below hBs
    have hBy : Below rb w wy := hBx.trans (hBs.mono hH.base)
    have nw : (Value.slice Aw j cw).ownBlock ≠ some wx2.heap.size := fun hf => by have := (hH.lt 0 rfl hf).2; omega
    have nb : (Value.slice Ab j cb).ownBlock ≠ some wx2.heap.size := fun hf => by have := (hH.lt 1 rfl hf).2; omega
    have n7s : b7 ≠ wx2.heap.size := fun e => by have := (hH.lt 3 rfl (g := b7) rfl).2; omega
    generalize wx2.heap.size = sb at hsay hBs nw nb n7s ⊢
    have hby := hsay.1
    have z3 := hsay.at (i := 3) rfl
    have z4 := hsay.at (i := 4) rfl
    have bx7 : Box wy b7 _ := hHy.get 3 rfl
    have y1 := bx7.at (i := 1) rfl
    have y2 := bx7.at (i := 2) rfl
    have hwl := bx7.1
    have n7w : (Value.slice Aw j cw).ownBlock ≠ some b7 := fun hf => hHy.ne 0 3 (by decide) rfl rfl _ hf rfl
    have n7b : (Value.slice Ab j cb).ownBlock ≠ some b7 := fun hf => hHy.ne 1 3 (by decide) rfl rfl _ hf rfl
    have hHd := hHy.drewN 1
    refine WP_held 13 (fun bk => (Value.slice Aw j cw).ownBlock = some bk ∨ (Value.slice Ab j cb).ownBlock = some bk) (.take 0 (.take 1 (.take 2 (.take 3 (.take 6 (.take 7 (.any [4,5,10,11,8,9,12] (.last 13 (.take 14 (.one 15 .done)))))))))) Fa.mix (by kernel_rfl) rfl ?_
    simp -dsimp (maxSteps := 2000000) only [VC.heldF_done, VC.heldF_last, VC.planF_done, VC.planF_take, VC.planF_one, VC.planF_two, VC.planK_eq, VC.heldF_take, VC.heldF_one, VC.heldF_two, VC.heldF_twoL, VC.heldK_eq, VC.okRd, Fa.F36, rdB_of z3, z3, rdI_of z4, z4, rdSA_of y1, rdSN_of y1, rdSC_of y1, y1, rdSA_of y2, rdSN_of y2, rdSC_of y2, y2, hwl, VC.Now, VC.vc, VC.lib, VC.mapN_drewN, VC.mapB_drewN, VC.regQ, VC.loopK, VC.reg, VC.opP, VC.opS, VC.opZ, VC.nomulB, VC.pv, VC.thenF, VC.blkF, VC.retF, VC.resV, VC.oneV, VC.evo, VC.bin, VC.binI, VC.cmpI, VC.arithI, VC.ldv, VC.slv, VC.pickP, VC.holds, VC.chainOf, VC.look, VC.junk, VC.put, VC.eff, VC.callee, VC.pureB, VC.rdK, VC.rdKs, VC.okKs, VC.eqKs, VC.fillL, VC.putL, VC.stW, VC.stOK, VC.mixF, VC.setAll, Nat.reduceAdd, Nat.reduceSub, Nat.reduceMul, if_true, if_false, ↓reduceIte, forall_const, implies_true, reduceCtorEq, ne_eq, Nat.reduceBNe, Nat.reduceBEq, IntKind.signed, Nat.reduceEqDiff, Nat.reduceLeDiff, Nat.reduceLT, eq_self, Int.reduceEq, Int.reduceLT, Int.reduceLE, Int.reduceAdd, Int.reduceSub, VC.regC_nil, VC.regC_cons, VC.regCK_eq, VC.callQ, VC.tailQ, VC.goCall, VC.chStep]
    refine ⟨fun h => h.elim n7w n7b, ⟨hby, fun h => h.elim nw nb⟩, fun h => h.elim n7w n7b, ?_⟩
    refine apps_two (D := [104, 105, 110, 111, 108, 109, 112]) (fun | 0 => ⟨4, 5, 104, 105, 103, 101, 45, 4, j, .slice Aw j cw, .bool (s.mi j).has, hasL s j⟩ | _ => ⟨10, 11, 110, 111, 109, 107, 86, 2, j, .slice Ab j cb, iV (s.mi j).value, valL s j⟩) rb [⟨8, 108, .pointer (some ⟨sb, 4, none⟩)⟩, ⟨9, 109, iV (s.mi j).value⟩, ⟨12, 112, .pointer (some ⟨b7, 1, none⟩)⟩]
      rfl rfl rfl (ApSep.two (by simp) (by simp)) ?_ ?_ ?_ ?_ hHd ?_
    · refine all_two ⟨⟨_, .mk0 rfl rfl rfl, Or.inl ⟨rfl, by simp [apD]⟩⟩, .mk1 rfl rfl rfl (by first | rfl | kernel_rfl), Fa.elo45, ⟨_, Fa.zco4⟩, Fa.kOf45, ⟨_, _, Fa.apI45, by decide⟩, rfl, rfl, rfl, Nat.le_of_ble_eq_true rfl, Nat.le_of_ble_eq_true rfl, by show j + 1 ≤ 100000; omega, by simp [apD]⟩
        ⟨⟨_, .mk1 (j := 9) rfl rfl rfl (by first | rfl | kernel_rfl), Or.inr ⟨_, List.mem_cons_of_mem _ (List.mem_cons_self ..), rfl, rfl, List.mem_singleton.2 rfl⟩⟩, .mk1 rfl rfl rfl (by first | rfl | kernel_rfl), Fa.elo86, ⟨_, Fa.zco2⟩, Fa.kOf86, ⟨_, _, Fa.apI86, by decide⟩, rfl, rfl, rfl, Nat.le_of_ble_eq_true rfl, Nat.le_of_ble_eq_true rfl, by show j + 1 ≤ 100000; omega, by simp [apD]⟩
    · intro x hx
      simp only [List.mem_cons, List.not_mem_nil, or_false] at hx
      rcases hx with rfl | rfl | rfl
      · exact ⟨.field _ _ _ _ _ _ _ _ _ (.mk0 rfl rfl rfl) Fa.fldo221_4 (by decide) (Or.inl ⟨rfl, by simp [apD]⟩) rfl (Nat.le_of_ble_eq_true rfl), by simp [apG], by simp [apD]⟩
      · exact ⟨.load _ _ sb 4 _ (.mk1 (j := 8) rfl rfl rfl (by first | rfl | kernel_rfl)) Fa.isAggB2 Fa.knownB2 (Or.inr ⟨_, List.mem_cons_self .., rfl, rfl, List.mem_singleton.2 rfl⟩) z4 (fun w1 hc => by rw [Fa.kOf2]; exact congrArg _ (rdI_of hc)) (fun ⟨a, ha, hk2⟩ => by
          have : a = 0 ∨ a = 1 := by omega
          rcases this with rfl | rfl
          · exact nw hk2
          · exact nb hk2) hby (Nat.le_of_ble_eq_true rfl), by simp [apG], by simp [apD]⟩
      · exact ⟨.field _ _ _ _ _ _ _ _ _ (.mk0 rfl rfl rfl) Fa.fldo88_1 (by decide) (Or.inl ⟨rfl, by simp [apD]⟩) rfl (Nat.le_of_ble_eq_true rfl), by simp [apG], by simp [apD]⟩
    · intro x hx y hy
      simp only [List.mem_cons, List.not_mem_nil, or_false] at hx hy
      rcases hx with rfl | rfl | rfl <;> rcases hy with rfl | rfl | rfl <;> simp
    · intro w' hA
      exact ((Agree.refl _ _).drewN 1).trans (hA.mono fun bk _ hX => by
        obtain ⟨a, ha, hk2⟩ := hX
        have : a = 0 ∨ a = 1 := by omega
        rcases this with rfl | rfl
        · exact Or.inl hk2
        · exact Or.inr hk2)
    · intro g2 w' A5 c5 A6 c6 e5 e6 hx2 hH2 hA2
      have e5 : g2 105 = .slice A5 (j + 1) c5 := e5
      have e6 : g2 111 = .slice A6 (j + 1) c6 := e6
      have e7 : g2 112 = .pointer (some ⟨b7, 1, none⟩) := hx2 ⟨12, 112, .pointer (some ⟨b7, 1, none⟩)⟩ (.tail _ (.tail _ (.head _)))
      have hHe : Hp rb ([oOwn 4 1 (j + 1) (g2 105) (hasL s j ++ [.bool (s.mi j).has]), oOwn 2 1 (j + 1) (g2 111) (valL s j ++ [iV (s.mi j).value])] ++ ([oOwn 24 1 t vc (codes.map (Value.int .i64)), oBox b7 [vc, .slice Aw j cw, .slice Ab j cb, iV 0, iV 0], oBox rb z5] ++ BObs n f liars sender a s va)) w' := hH2
      rw [e5, e6, ← hasL_succ, ← valL_succ] at hHe
      have st1 := hHe.setBox 3 rfl 1 (.slice A5 (j + 1) c5)
      have st2 := st1.hp.setBox 3 rfl 2 (.slice A6 (j + 1) c6)
      have f7 : Box w' b7 _ := hHe.get 3 rfl
      have f7' : Box (w'.setCell ⟨b7, 1, none⟩ (.slice A5 (j + 1) c5)) b7 _ := st1.hp.get 3 rfl
      have r1 : (w'.cell? ⟨b7, 1, none⟩).isSome = true ∧ w'.frozen? ⟨b7, 1, none⟩ = false := ⟨by rw [f7.at (i := 1) rfl]; rfl, f7.soft (by show 1 < 5; omega)⟩
      have r2 : ((w'.setCell ⟨b7, 1, none⟩ (.slice A5 (j + 1) c5)).cell? ⟨b7, 2, none⟩).isSome = true ∧ (w'.setCell ⟨b7, 1, none⟩ (.slice A5 (j + 1) c5)).frozen? ⟨b7, 2, none⟩ = false := ⟨by rw [f7'.at (i := 2) rfl]; rfl, f7'.soft (by show 2 < 5; omega)⟩
      have hl7 := f7.1
      have hl7' := f7'.1
      have hAll : Agree (fun i => rb ≤ i ∧ i ≠ sb) wy w' := ((Agree.refl _ wy).drewN 1).trans (hA2.mono fun i _ hX => by
        obtain ⟨a, ha, hi⟩ := hX
        have : a = 0 ∨ a = 1 := by omega
        rcases this with rfl | rfl
        · exact ⟨(hHd.lt 0 rfl hi).1, fun e => nw (by rw [← e]; exact hi)⟩
        · exact ⟨(hHd.lt 1 rfl hi).1, fun e => nb (by rw [← e]; exact hi)⟩)
      have hBe : Below rb w w' := hAll.to_below hBy hHy.base fun i hi => hi.1
      have hB9 := hBe.trans ((st1.trans st2).below hHe)
      simp -dsimp (maxSteps := 2000000) only [VC.heldF_done, VC.heldF_last, VC.planF_done, VC.planF_take, VC.planF_one, VC.planF_two, VC.planK_eq, VC.heldF_take, VC.heldF_one, VC.heldF_two, VC.heldF_twoL, VC.heldK_eq, VC.okRd, Fa.F36, VC.setD, e5, e6, e7, hl7, hl7', undef, tu, uf, ul, ur, VC.Now, VC.vc, VC.lib, VC.mapN_drewN, VC.mapB_drewN, VC.regQ, VC.loopK, VC.reg, VC.opP, VC.opS, VC.opZ, VC.nomulB, VC.pv, VC.thenF, VC.blkF, VC.retF, VC.resV, VC.oneV, VC.evo, VC.bin, VC.binI, VC.cmpI, VC.arithI, VC.ldv, VC.slv, VC.pickP, VC.holds, VC.chainOf, VC.look, VC.junk, VC.put, VC.eff, VC.callee, VC.pureB, VC.rdK, VC.rdKs, VC.okKs, VC.eqKs, VC.fillL, VC.putL, VC.stW, VC.stOK, VC.mixF, VC.setAll, Nat.reduceAdd, Nat.reduceSub, Nat.reduceMul, if_true, if_false, ↓reduceIte, forall_const, implies_true, reduceCtorEq, ne_eq, Nat.reduceBNe, Nat.reduceBEq, IntKind.signed, Nat.reduceEqDiff, Nat.reduceLeDiff, Nat.reduceLT, eq_self, Int.reduceEq, Int.reduceLT, Int.reduceLE, Int.reduceAdd, Int.reduceSub, VC.regC_nil, VC.regC_cons, VC.regCK_eq, VC.callQ, VC.tailQ, VC.goCall, VC.chStep]
      exact ⟨r1, r2, fits_i64_nat (by omega), SAME.intro (by kernel_rfl), m2 - 1, by omega, j + 1, .slice A5 (j + 1) c5, .slice A6 (j + 1) c6, by omega, rfl, hB9, st2.hp⟩
  · obtain rfl : j = n := by omega
    have e9 : ((j : Int) < j) = False := eq_false (by omega)
    have ho : OwnK wx2 0 226 5 s.all.length va (s.all.flatMap noteL) := hH.get 6 rfl
    obtain ⟨Av, cv, rfl, _⟩ := id ho
    have bw : Box wx2 a.wb (worldC j f liars sender a (.slice Av s.all.length cv) s.started) := hH.get 5 rfl
    have x4 := bw.at (i := 4) rfl
    have hwl := bw.1
    have bx7 : Box wx2 b7 _ := hH.get 3 rfl
    have g3 : (wx2.cell? ⟨b7, 3, none⟩).isSome = true := by rw [bx7.at (i := 3) rfl]; rfl
    have f3 := bx7.soft (i := 3) (by show 3 < 5; omega)
    have hl7 := bx7.1
    (repeat rw [vc_seq]); refine vc_plain _ fun Q hQ => ?_; simp -dsimp (maxSteps := 2000000) only [Fa.F36, e9, VC.Now, VC.vc_skip, VC.vc_ret, VC.vc_exit, VC.vc_block, VC.vc_cond, VC.vc_region, VC.lib, VC.mapN_drewN, VC.mapB_drewN, VC.regQ, VC.loopK, VC.reg, VC.opP, VC.opS, VC.opZ, VC.nomulB, VC.pv, VC.thenF, VC.blkF, VC.retF, VC.resV, VC.oneV, VC.evo, VC.bin, VC.binI, VC.cmpI, VC.arithI, VC.ldv, VC.slv, VC.pickP, VC.holds, VC.chainOf, VC.look, VC.junk, VC.put, VC.eff, VC.callee, VC.pureB, VC.rdK, VC.rdKs, VC.okKs, VC.eqKs, VC.fillL, VC.putL, VC.stW, VC.stOK, VC.mixF, VC.setAll, Nat.reduceAdd, Nat.reduceSub, Nat.reduceMul, if_true, if_false, ↓reduceIte, forall_const, implies_true, reduceCtorEq, ne_eq, Nat.reduceBNe, Nat.reduceBEq, IntKind.signed, Nat.reduceEqDiff, Nat.reduceLeDiff, Nat.reduceLT, eq_self, Int.reduceEq, Int.reduceLT, Int.reduceLE, Int.reduceAdd, Int.reduceSub, VC.regC_nil, VC.regC_cons, VC.regCK_eq, VC.callQ, VC.tailQ, VC.goCall, VC.chStep]
    subst hQ
    simp -dsimp (maxSteps := 2000000) only [Fa.F36, VC.Now, VC.vc_skip, VC.vc_ret, VC.vc_exit, VC.vc_block, VC.vc_cond, VC.vc_region, VC.lib, VC.mapN_drewN, VC.mapB_drewN, VC.regQ, VC.loopK, VC.reg, VC.opP, VC.opS, VC.opZ, VC.nomulB, VC.pv, VC.thenF, VC.blkF, VC.retF, VC.resV, VC.oneV, VC.evo, VC.bin, VC.binI, VC.cmpI, VC.arithI, VC.ldv, VC.slv, VC.pickP, VC.holds, VC.chainOf, VC.look, VC.junk, VC.put, VC.eff, VC.callee, VC.pureB, VC.rdK, VC.rdKs, VC.okKs, VC.eqKs, VC.fillL, VC.putL, VC.stW, VC.stOK, VC.mixF, VC.setAll, Nat.reduceAdd, Nat.reduceSub, Nat.reduceMul, if_true, if_false, ↓reduceIte, forall_const, implies_true, reduceCtorEq, ne_eq, Nat.reduceBNe, Nat.reduceBEq, IntKind.signed, Nat.reduceEqDiff, Nat.reduceLeDiff, Nat.reduceLT, eq_self, Int.reduceEq, Int.reduceLT, Int.reduceLE, Int.reduceAdd, Int.reduceSub, VC.regC_nil, VC.regC_cons, VC.regCK_eq, VC.callQ, VC.tailQ, VC.goCall, VC.chStep]
    (repeat rw [vc_seq])
    simp -dsimp (maxSteps := 2000000) only [Fa.F36, VC.Now, VC.vc_skip, VC.vc_ret, VC.vc_exit, VC.vc_block, VC.vc_cond, VC.vc_region, VC.lib, VC.mapN_drewN, VC.mapB_drewN, VC.regQ, VC.loopK, VC.reg, VC.opP, VC.opS, VC.opZ, VC.nomulB, VC.pv, VC.thenF, VC.blkF, VC.retF, VC.resV, VC.oneV, VC.evo, VC.bin, VC.binI, VC.cmpI, VC.arithI, VC.ldv, VC.slv, VC.pickP, VC.holds, VC.chainOf, VC.look, VC.junk, VC.put, VC.eff, VC.callee, VC.pureB, VC.rdK, VC.rdKs, VC.okKs, VC.eqKs, VC.fillL, VC.putL, VC.stW, VC.stOK, VC.mixF, VC.setAll, Nat.reduceAdd, Nat.reduceSub, Nat.reduceMul, if_true, if_false, ↓reduceIte, forall_const, implies_true, reduceCtorEq, ne_eq, Nat.reduceBNe, Nat.reduceBEq, IntKind.signed, Nat.reduceEqDiff, Nat.reduceLeDiff, Nat.reduceLT, eq_self, Int.reduceEq, Int.reduceLT, Int.reduceLE, Int.reduceAdd, Int.reduceSub, VC.regC_nil, VC.regC_cons, VC.regCK_eq, VC.callQ, VC.tailQ, VC.goCall, VC.chStep]
    (repeat rw [vc_seq]); refine vc_plain _ fun Q hQ => ?_; simp -dsimp (maxSteps := 2000000) only [Fa.F36, rdSA_of x4, rdSN_of x4, rdSC_of x4, x4, hwl, g3, f3, hl7, VC.Now, VC.vc_skip, VC.vc_ret, VC.vc_exit, VC.vc_block, VC.vc_cond, VC.vc_region, VC.lib, VC.mapN_drewN, VC.mapB_drewN, VC.regQ, VC.loopK, VC.reg, VC.opP, VC.opS, VC.opZ, VC.nomulB, VC.pv, VC.thenF, VC.blkF, VC.retF, VC.resV, VC.oneV, VC.evo, VC.bin, VC.binI, VC.cmpI, VC.arithI, VC.ldv, VC.slv, VC.pickP, VC.holds, VC.chainOf, VC.look, VC.junk, VC.put, VC.eff, VC.callee, VC.pureB, VC.rdK, VC.rdKs, VC.okKs, VC.eqKs, VC.fillL, VC.putL, VC.stW, VC.stOK, VC.mixF, VC.setAll, Nat.reduceAdd, Nat.reduceSub, Nat.reduceMul, if_true, if_false, ↓reduceIte, forall_const, implies_true, reduceCtorEq, ne_eq, Nat.reduceBNe, Nat.reduceBEq, IntKind.signed, Nat.reduceEqDiff, Nat.reduceLeDiff, Nat.reduceLT, eq_self, Int.reduceEq, Int.reduceLT, Int.reduceLE, Int.reduceAdd, Int.reduceSub, VC.regC_nil, VC.regC_cons, VC.regCK_eq, VC.callQ, VC.tailQ, VC.goCall, VC.chStep]
    have st1 := hH.setBox 3 rfl 3 (iV s.all.length)
    have hH5 := st1.hp
    have hB5 := hBx.trans (st1.below hH)
    clear st1 ho bw x4 hwl bx7 g3 f3 hl7 hH hBx
    generalize wx2.setCell ⟨b7, 3, none⟩ (iV s.all.length) = w5 at hH5 hB5 ⊢
    have ho : OwnK w5 0 226 5 s.all.length (.slice Av s.all.length cv) (s.all.flatMap noteL) := hH5.get 6 rfl
    have bw : Box w5 a.wb (worldC j f liars sender a (.slice Av s.all.length cv) s.started) := hH5.get 5 rfl
    have x4 := bw.at (i := 4) rfl
    have hwl := bw.1
    subst hQ; simp -dsimp (maxSteps := 2000000) only [VC.Now, VC.vc_skip, VC.vc_ret, VC.vc_exit, VC.vc_block, VC.vc_cond, VC.vc_region, VC.lib, VC.mapN_drewN, VC.mapB_drewN, VC.regQ, VC.loopK, VC.reg, VC.opP, VC.opS, VC.opZ, VC.nomulB, VC.pv, VC.thenF, VC.blkF, VC.retF, VC.resV, VC.oneV, VC.evo, VC.bin, VC.binI, VC.cmpI, VC.arithI, VC.ldv, VC.slv, VC.pickP, VC.holds, VC.chainOf, VC.look, VC.junk, VC.put, VC.eff, VC.callee, VC.pureB, VC.rdK, VC.rdKs, VC.okKs, VC.eqKs, VC.fillL, VC.putL, VC.stW, VC.stOK, VC.mixF, VC.setAll, Nat.reduceAdd, Nat.reduceSub, Nat.reduceMul, if_true, if_false, ↓reduceIte, forall_const, implies_true, reduceCtorEq, ne_eq, Nat.reduceBNe, Nat.reduceBEq, IntKind.signed, Nat.reduceEqDiff, Nat.reduceLeDiff, Nat.reduceLT, eq_self, Int.reduceEq, Int.reduceLT, Int.reduceLE, Int.reduceAdd, Int.reduceSub, VC.regC_nil, VC.regC_cons, VC.regCK_eq, VC.callQ, VC.tailQ, VC.goCall, VC.chStep]; (repeat rw [vc_seq]); refine vc_plain _ fun Q hQ => ?_; simp -dsimp (maxSteps := 2000000) only [Fa.F36, VC.Now, VC.vc_skip, VC.vc_ret, VC.vc_exit, VC.vc_block, VC.vc_cond, VC.vc_region, VC.lib, VC.mapN_drewN, VC.mapB_drewN, VC.regQ, VC.loopK, VC.reg, VC.opP, VC.opS, VC.opZ, VC.nomulB, VC.pv, VC.thenF, VC.blkF, VC.retF, VC.resV, VC.oneV, VC.evo, VC.bin, VC.binI, VC.cmpI, VC.arithI, VC.ldv, VC.slv, VC.pickP, VC.holds, VC.chainOf, VC.look, VC.junk, VC.put, VC.eff, VC.callee, VC.pureB, VC.rdK, VC.rdKs, VC.okKs, VC.eqKs, VC.fillL, VC.putL, VC.stW, VC.stOK, VC.mixF, VC.setAll, Nat.reduceAdd, Nat.reduceSub, Nat.reduceMul, if_true, if_false, ↓reduceIte, forall_const, implies_true, reduceCtorEq, ne_eq, Nat.reduceBNe, Nat.reduceBEq, IntKind.signed, Nat.reduceEqDiff, Nat.reduceLeDiff, Nat.reduceLT, eq_self, Int.reduceEq, Int.reduceLT, Int.reduceLE, Int.reduceAdd, Int.reduceSub, VC.regC_nil, VC.regC_cons, VC.regCK_eq, VC.callQ, VC.tailQ, VC.goCall, VC.chStep]
    subst hQ; simp -dsimp (maxSteps := 2000000) only [VC.Now, VC.vc_skip, VC.vc_ret, VC.vc_exit, VC.vc_block, VC.vc_cond, VC.vc_region, VC.lib, VC.mapN_drewN, VC.mapB_drewN, VC.regQ, VC.loopK, VC.reg, VC.opP, VC.opS, VC.opZ, VC.nomulB, VC.pv, VC.thenF, VC.blkF, VC.retF, VC.resV, VC.oneV, VC.evo, VC.bin, VC.binI, VC.cmpI, VC.arithI, VC.ldv, VC.slv, VC.pickP, VC.holds, VC.chainOf, VC.look, VC.junk, VC.put, VC.eff, VC.callee, VC.pureB, VC.rdK, VC.rdKs, VC.okKs, VC.eqKs, VC.fillL, VC.putL, VC.stW, VC.stOK, VC.mixF, VC.setAll, Nat.reduceAdd, Nat.reduceSub, Nat.reduceMul, if_true, if_false, ↓reduceIte, forall_const, implies_true, reduceCtorEq, ne_eq, Nat.reduceBNe, Nat.reduceBEq, IntKind.signed, Nat.reduceEqDiff, Nat.reduceLeDiff, Nat.reduceLT, eq_self, Int.reduceEq, Int.reduceLT, Int.reduceLE, Int.reduceAdd, Int.reduceSub, VC.regC_nil, VC.regC_cons, VC.regCK_eq, VC.callQ, VC.tailQ, VC.goCall, VC.chStep]; (repeat rw [vc_seq]); refine vc_plain _ fun Q hQ => ?_; simp -dsimp (maxSteps := 2000000) only [Fa.F36, rdSA_of x4, rdSN_of x4, rdSC_of x4, x4, hwl, VC.Now, VC.vc_skip, VC.vc_ret, VC.vc_exit, VC.vc_block, VC.vc_cond, VC.vc_region, VC.lib, VC.mapN_drewN, VC.mapB_drewN, VC.regQ, VC.loopK, VC.reg, VC.opP, VC.opS, VC.opZ, VC.nomulB, VC.pv, VC.thenF, VC.blkF, VC.retF, VC.resV, VC.oneV, VC.evo, VC.bin, VC.binI, VC.cmpI, VC.arithI, VC.ldv, VC.slv, VC.pickP, VC.holds, VC.chainOf, VC.look, VC.junk, VC.put, VC.eff, VC.callee, VC.pureB, VC.rdK, VC.rdKs, VC.okKs, VC.eqKs, VC.fillL, VC.putL, VC.stW, VC.stOK, VC.mixF, VC.setAll, Nat.reduceAdd, Nat.reduceSub, Nat.reduceMul, if_true, if_false, ↓reduceIte, forall_const, implies_true, reduceCtorEq, ne_eq, Nat.reduceBNe, Nat.reduceBEq, IntKind.signed, Nat.reduceEqDiff, Nat.reduceLeDiff, Nat.reduceLT, eq_self, Int.reduceEq, Int.reduceLT, Int.reduceLE, Int.reduceAdd, Int.reduceSub, VC.regC_nil, VC.regC_cons, VC.regCK_eq, VC.callQ, VC.tailQ, VC.goCall, VC.chStep]
    refine CALL_by (cloneMsg_any Av cv s.all w5 ho (by omega)) ?_
    rintro _ w6 ⟨v6, rfl, ho6, hB6⟩
    refine ⟨_, rfl, ?_⟩
    rw [VC.Now, VC.seqK_eq]
    simp -dsimp (maxSteps := 2000000) only [Fa.F36, VC.Now, VC.vc_skip, VC.vc_ret, VC.vc_exit, VC.vc_block, VC.vc_cond, VC.vc_region, VC.lib, VC.mapN_drewN, VC.mapB_drewN, VC.regQ, VC.loopK, VC.reg, VC.opP, VC.opS, VC.opZ, VC.nomulB, VC.pv, VC.thenF, VC.blkF, VC.retF, VC.resV, VC.oneV, VC.evo, VC.bin, VC.binI, VC.cmpI, VC.arithI, VC.ldv, VC.slv, VC.pickP, VC.holds, VC.chainOf, VC.look, VC.junk, VC.put, VC.eff, VC.callee, VC.pureB, VC.rdK, VC.rdKs, VC.okKs, VC.eqKs, VC.fillL, VC.putL, VC.stW, VC.stOK, VC.mixF, VC.setAll, Nat.reduceAdd, Nat.reduceSub, Nat.reduceMul, if_true, if_false, ↓reduceIte, forall_const, implies_true, reduceCtorEq, ne_eq, Nat.reduceBNe, Nat.reduceBEq, IntKind.signed, Nat.reduceEqDiff, Nat.reduceLeDiff, Nat.reduceLT, eq_self, Int.reduceEq, Int.reduceLT, Int.reduceLE, Int.reduceAdd, Int.reduceSub, VC.regC_nil, VC.regC_cons, VC.regCK_eq, VC.callQ, VC.tailQ, VC.goCall, VC.chStep]
    refine CALL_by (delMsg_any v6 s.all w6 ho6 (by omega)) ?_
    rintro _ w7 ⟨⟨A7, c7, rfl⟩, hA7⟩
    refine ⟨_, rfl, ?_⟩
    have hH7 := (hH5.below hB6).agree hA7 (fun g hg hX => by have := (hH5.foot_lt hg).2; have := (ho6.lt hX).1; omega)
    have hB7 := hA7.to_below (hB5.trans (hB6.mono hH5.base)) (hH5.below hB6).base fun g hg => by have := (ho6.lt hg).1; have := hH5.base; omega
    clear hA7 ho6 hB6 hB5 hH5 ho bw x4 hwl
    have bx7 : Box w7 b7 _ := hH7.get 3 rfl
    have g4 : (w7.cell? ⟨b7, 4, none⟩).isSome = true := by rw [bx7.at (i := 4) rfl]; rfl
    have f4 := bx7.soft (i := 4) (by show 4 < 5; omega)
    have hl7 := bx7.1
    rw [VC.Now, VC.seqK_eq]
    simp -dsimp (maxSteps := 2000000) only [Fa.F36, g4, f4, hl7, VC.Now, VC.vc_skip, VC.vc_ret, VC.vc_exit, VC.vc_block, VC.vc_cond, VC.vc_region, VC.lib, VC.mapN_drewN, VC.mapB_drewN, VC.regQ, VC.loopK, VC.reg, VC.opP, VC.opS, VC.opZ, VC.nomulB, VC.pv, VC.thenF, VC.blkF, VC.retF, VC.resV, VC.oneV, VC.evo, VC.bin, VC.binI, VC.cmpI, VC.arithI, VC.ldv, VC.slv, VC.pickP, VC.holds, VC.chainOf, VC.look, VC.junk, VC.put, VC.eff, VC.callee, VC.pureB, VC.rdK, VC.rdKs, VC.okKs, VC.eqKs, VC.fillL, VC.putL, VC.stW, VC.stOK, VC.mixF, VC.setAll, Nat.reduceAdd, Nat.reduceSub, Nat.reduceMul, if_true, if_false, ↓reduceIte, forall_const, implies_true, reduceCtorEq, ne_eq, Nat.reduceBNe, Nat.reduceBEq, IntKind.signed, Nat.reduceEqDiff, Nat.reduceLeDiff, Nat.reduceLT, eq_self, Int.reduceEq, Int.reduceLT, Int.reduceLE, Int.reduceAdd, Int.reduceSub, VC.regC_nil, VC.regC_cons, VC.regCK_eq, VC.callQ, VC.tailQ, VC.goCall, VC.chStep]
    have st8 := hH7.setBox 3 rfl 4 (iV (awayN s.all s.all.length))
    have hH8 := st8.hp
    have hB8 := hB7.trans (st8.below hH7)
    clear st8 bx7 g4 f4 hl7 hH7 hB7
    generalize w7.setCell ⟨b7, 4, none⟩ (iV (awayN s.all s.all.length)) = w8 at hH8 hB8 ⊢
    obtain ⟨Ac, cc, rfl, _⟩ := id (hH8.get 2 rfl : OwnK w8 0 24 1 t vc _)
    obtain ⟨Aw, cw, rfl, _⟩ := id (hH8.get 0 rfl : OwnK w8 0 4 1 j hv _)
    obtain ⟨Ab, cb, rfl, _⟩ := id (hH8.get 1 rfl : OwnK w8 0 2 1 j vv _)
    have bo : Box w8 b7 [.slice Ac t cc, .slice Aw j cw, .slice Ab j cb, iV s.all.length, iV (awayN s.all s.all.length)] := hH8.get 3 rfl
    have b0 := bo.at (i := 0) rfl
    have b1 := bo.at (i := 1) rfl
    have b2 := bo.at (i := 2) rfl
    have b3 := bo.at (i := 3) rfl
    have b4 := bo.at (i := 4) rfl
    have hol := bo.1
    obtain ⟨ok, st2⟩ := hH8.allBox 4 rfl (vs := [.slice Ac t cc, .slice Aw j cw, .slice Ab j cb, iV s.all.length, iV (awayN s.all s.all.length)]) rfl (by intro v hv; simp at hv; rcases hv with rfl | rfl | rfl | rfl | rfl <;> rfl)
    have rb5 : Box _ rb [.slice Ac t cc, .slice Aw j cw, .slice Ab j cb, iV s.all.length, iV (awayN s.all s.all.length)] := st2.hp.get 4 rfl
    have t0 := rb5.at (i := 0) rfl
    have t1 := rb5.at (i := 1) rfl
    have t2 := rb5.at (i := 2) rfl
    have t3 := rb5.at (i := 3) rfl
    have t4 := rb5.at (i := 4) rfl
    subst hQ
    simp -dsimp (maxSteps := 2000000) only [Fa.F36, hol, rdSA_of b0, rdSN_of b0, rdSC_of b0, b0, rdSA_of b1, rdSN_of b1, rdSC_of b1, b1, rdSA_of b2, rdSN_of b2, rdSC_of b2, b2, rdI_of b3, b3, rdI_of b4, b4, rdSA_of t0, rdSN_of t0, rdSC_of t0, t0, rdSA_of t1, rdSN_of t1, rdSC_of t1, t1, rdSA_of t2, rdSN_of t2, rdSC_of t2, t2, rdI_of t3, t3, rdI_of t4, t4, VC.Now, VC.vc, VC.lib, VC.mapN_drewN, VC.mapB_drewN, VC.regQ, VC.loopK, VC.reg, VC.opP, VC.opS, VC.opZ, VC.nomulB, VC.pv, VC.thenF, VC.blkF, VC.retF, VC.resV, VC.oneV, VC.evo, VC.bin, VC.binI, VC.cmpI, VC.arithI, VC.ldv, VC.slv, VC.pickP, VC.holds, VC.chainOf, VC.look, VC.junk, VC.put, VC.eff, VC.callee, VC.pureB, VC.rdK, VC.rdKs, VC.okKs, VC.eqKs, VC.fillL, VC.putL, VC.mixF, VC.setAll, Nat.reduceAdd, Nat.reduceSub, Nat.reduceMul, if_true, if_false, ↓reduceIte, forall_const, implies_true, reduceCtorEq, ne_eq, Nat.reduceBNe, Nat.reduceBEq, IntKind.signed, Nat.reduceEqDiff, Nat.reduceLeDiff, Nat.reduceLT, eq_self, Int.reduceEq, Int.reduceLT, Int.reduceLE, Int.reduceAdd, Int.reduceSub, VC.regC_nil, VC.regC_cons, VC.regCK_eq, VC.callQ, VC.tailQ, VC.goCall, VC.chStep]
    have q0 := (st2.hp.get 2 rfl : OwnK _ 0 24 1 t _ _)
    have q1 := (st2.hp.get 0 rfl : OwnK _ 0 4 1 j _ (hasL s j))
    have q2 := (st2.hp.get 1 rfl : OwnK _ 0 2 1 j _ (valL s j))
    exact ⟨ok, _, rfl, ⟨Ac, cc, Aw, cw, Ab, cb, by rw [haway], hcl, q0.rd.2, by rw [List.map_map]; exact q1.rd.2, by rw [List.map_map]; exact q2.rd.2⟩, by rw [hrb]; exact hB8.trans (st2.below hH8)⟩
/-- The program's whole run. -/
theorem braP_any (n f liars sender : Nat) (A2 : Option Addr) (len cap : Nat) (g : Nat → SprC) (w : World) (hr : RdT w A2 len 6 (fun i => sprL (g i))) (hgf : ∀ i, fits .i64 (g i).n) (h1 : 1 ≤ n) (hn : n ≤ 7) (hf : f ≤ (n - 1) / 3) (hl : liars < 2 ^ n) (hs : sender < n) (hlen : len ≤ 120) :
    Calls Try.prog 36 #[iV n, iV f, .int .u32 liars, iV sender, .slice A2 len cap] w fun e w' => ∃ v, e = .returned (.tuple #[v, .int .i64 0]) ∧ TolQ n len ((List.range len).map (bcode n f liars sender g)) (bst n f liars sender g len) v w' ∧ Below w.heap.size w w' :=
  braBut.2 bra_rest n f liars sender A2 len cap g w hr hgf h1 hn hf hl hs hlen
end Go.Proofs.Ytelfmhiaafkimaa
