/- A picture of what moves: what each one has, told. -/
import Derived.Test.YtelfmhiaafkimaaSnap6
import Derived.Test.YtelfmhiaafkimaaApps
namespace Go.Proofs.Ytelfmhiaafkimaa
open Go Go.RowKit Go.VC
set_option linter.unusedSimpArgs false
set_option linter.unusedVariables false
theorem made_nils (k : Nat) : (madeCells [nilS].toArray (k * 1)).toList = (List.range k).map fun _ => nilS := by
  apply List.ext_getElem?
  intro i
  by_cases hi : i < k
  · have := made_at (z := [nilS].toArray) (n := k) (K := 1) (i := i) (j := 0) rfl hi (by omega)
    simp only [Nat.mul_one, Nat.add_zero] at this ⊢
    rw [this, List.getElem?_map, List.getElem?_range hi]
    rfl
  · rw [List.getElem?_eq_none, List.getElem?_eq_none]
    · simpa using hi
    · simp [madeCells]; omega
abbrev monL (s : SnS) (j : Nat) : List Value := (List.range j).map fun i => iV (s.money i)
abbrev ownL (s : SnS) (j : Nat) : List Value := (List.range j).map fun i => iV (s.own i)
theorem monL_succ (s : SnS) (j : Nat) : monL s (j + 1) = monL s j ++ [iV (s.money j)] := by unfold monL; rw [List.range_succ, List.map_append]; rfl
theorem ownL_succ (s : SnS) (j : Nat) : ownL s (j + 1) = ownL s j ++ [iV (s.own j)] := by unfold ownL; rw [List.range_succ, List.map_append]; rfl
def allOwn (s : SnS) : Nat → Bool
  | 0 => true
  | j + 1 => allOwn s j && decide (¬ s.own j = -1)
noncomputable abbrev LEnd (n t gb b7 rb : Nat) (a : NA) (s : SnS) (q : NV) (vc mv ov : Value) (codes : List Int) (btw : Nat → Value) (j : Nat) (dn : Bool) : List Ob :=
  [oOwn 3 1 j mv (monL s j), oOwn 3 1 j ov (ownL s j)] ++ ([oOwn 24 1 t vc (codes.map (Value.int .i64)), oBox b7 [vc, mv, ov, .slice (some ⟨gb, 0, none⟩) (n * n) (n * n), .bool dn], oBox rb z5, oBox gb ((List.range (n * n)).map btw)] ++ NObs n a (pOf n s) q)
set_option maxRecDepth 8000 in
set_option maxHeartbeats 8000000 in
noncomputable def snapBut2 : { P : Prop // P → snapBut.1 } := by
  refine ⟨?P3 ∧ True, fun HH => ?body⟩
  case body =>
  unfold snapBut
  refine ⟨?_, trivial⟩
  intro A n c0 A2 cap m g w hm h1 hn wa rb hrb u w1 w2 a w9 b7 mm u3 wx t q vc hBx hH hinv hlen
  have hnn36 : n * n ≤ 36 := Nat.mul_le_mul hn hn
  have hnn : (n : Int) * n = ((n * n : Nat) : Int) := by simp
  have e8 : ((t : Int) < t) = False := eq_false (by omega)
  have hcl : ((List.range t).map (ncode n m g)).length = t := by simp
  have hce : ncodes n m g t = ((List.range t).map (ncode n m g)).map (Value.int .i64) := by unfold ncodes; rw [List.map_map]; rfl
  rw [hce] at hH
  generalize (List.range t).map (ncode n m g) = codes at *
  generalize nst n m g t = s at *
  have b0 : Box wx b7 [vc, nilS, nilS, nilS, .bool false] := hH.get 1 rfl
  have f4 := b0.soft (i := 4) (by show 4 < 5; omega)
  have k4 : (wx.cell? ⟨b7, 4, none⟩).isSome = true := by rw [b0.at (i := 4) rfl]; rfl
  have hol := b0.1
  have st1 := hH.setBox 1 rfl 4 (.bool true)
  simp -dsimp (maxSteps := 2000000) only [Fa.F24, e8, hol, f4, k4, hnn, VC.Now, VC.vc, VC.lib, VC.mapN_drewN, VC.mapB_drewN, VC.regQ, VC.loopK, VC.reg, VC.opP, VC.opS, VC.opZ, VC.nomulB, VC.pv, VC.thenF, VC.blkF, VC.retF, VC.resV, VC.oneV, VC.evo, VC.bin, VC.binI, VC.cmpI, VC.arithI, VC.ldv, VC.slv, VC.pickP, VC.holds, VC.chainOf, VC.look, VC.junk, VC.put, VC.eff, VC.callee, VC.pureB, VC.rdK, VC.rdKs, VC.okKs, VC.eqKs, VC.fillL, VC.putL, VC.stW, VC.stOK, VC.mixF, VC.setAll, Nat.reduceAdd, Nat.reduceSub, Nat.reduceMul, if_true, if_false, ↓reduceIte, forall_const, implies_true, reduceCtorEq, ne_eq, Nat.reduceBNe, Nat.reduceBEq, IntKind.signed, Nat.reduceEqDiff, Nat.reduceLeDiff, Nat.reduceLT, eq_self, Int.reduceEq, Int.reduceLT, Int.reduceLE, Int.reduceAdd, Int.reduceSub, VC.regC_nil, VC.regC_cons, VC.regCK_eq, VC.callQ, VC.tailQ, VC.goCall, VC.chStep]
  refine ⟨fits_i64 (by omega) (by omega), ?_⟩
  have hH1 := st1.hp
  have hB1 := hBx.trans (st1.below hH)
  generalize wx.setCell ⟨b7, 4, none⟩ (.bool true) = wy at hH1 hB1 ⊢
  clear st1 hH hBx b0 f4 k4 hol
  refine OPW_makeK (n := n * n) (base := 0) rfl Fa.apI54 rfl rfl rfl rfl (by omega) (by omega) (Nat.zero_le _) fun w4 ho4 hg4 => ?_
  have hB4 : Below wy.heap.size wy w4 := (Below.refl _ _).grown hg4 (Nat.le_refl _) fun k hk => by cases hk
  have hl4 : wy.heap.size < w4.heap.size := (ho4.lt (g := wy.heap.size) rfl).2
  have hbg := Box.of_own ho4 hl4
  rw [made_nils] at hbg
  have hH2 := (hH1.st_add (o := oBox wy.heap.size ((List.range (n * n)).map fun _ => nilS)) hB4 hbg (fun g hg => by cases hg; exact Nat.le_refl _)).hp
  have hB2 := hB1.trans (hB4.mono hH1.base)
  rw [VC.Now, VC.seqK_eq]
  clear ho4 hg4 hbg hl4 hB4 hH1 hB1
  generalize wy.heap.size = gb at hH2 ⊢
  have b0 : Box w4 b7 [vc, nilS, nilS, nilS, .bool true] := hH2.get 2 rfl
  have f3 := b0.soft (i := 3) (by show 3 < 5; omega)
  have k3 : (w4.cell? ⟨b7, 3, none⟩).isSome = true := by rw [b0.at (i := 3) rfl]; rfl
  have hol := b0.1
  have st3 := hH2.setBox 2 rfl 3 (.slice (some ⟨gb, 0, none⟩) (n * n) (n * n))
  have hH3 := st3.hp
  have hB3 := hB2.trans (st3.below hH2)
  have bw : Box (w4.setCell ⟨b7, 3, none⟩ (.slice (some ⟨gb, 0, none⟩) (n * n) (n * n))) a.wb [.slice (some ⟨a.gp, 0, none⟩) n a.gc, .map (some a.mb)] := hH3.get 4 rfl
  have x0 := bw.at (i := 0) rfl
  have hwl := bw.1
  simp -dsimp (maxSteps := 2000000) only [Fa.F24, hol, f3, k3, rdSA_of x0, rdSN_of x0, rdSC_of x0, x0, hwl, VC.Now, VC.vc, VC.lib, VC.mapN_drewN, VC.mapB_drewN, VC.regQ, VC.loopK, VC.reg, VC.opP, VC.opS, VC.opZ, VC.nomulB, VC.pv, VC.thenF, VC.blkF, VC.retF, VC.resV, VC.oneV, VC.evo, VC.bin, VC.binI, VC.cmpI, VC.arithI, VC.ldv, VC.slv, VC.pickP, VC.holds, VC.chainOf, VC.look, VC.junk, VC.put, VC.eff, VC.callee, VC.pureB, VC.rdK, VC.rdKs, VC.okKs, VC.eqKs, VC.fillL, VC.putL, VC.stW, VC.stOK, VC.mixF, VC.setAll, Nat.reduceAdd, Nat.reduceSub, Nat.reduceMul, if_true, if_false, ↓reduceIte, forall_const, implies_true, reduceCtorEq, ne_eq, Nat.reduceBNe, Nat.reduceBEq, IntKind.signed, Nat.reduceEqDiff, Nat.reduceLeDiff, Nat.reduceLT, eq_self, Int.reduceEq, Int.reduceLT, Int.reduceLE, Int.reduceAdd, Int.reduceSub, VC.regC_nil, VC.regC_cons, VC.regCK_eq, VC.callQ, VC.tailQ, VC.goCall, VC.chStep]
  generalize w4.setCell ⟨b7, 3, none⟩ (.slice (some ⟨gb, 0, none⟩) (n * n) (n * n)) = w5 at hH3 hB3 ⊢
  have hHl : Hp rb (LEnd n t gb b7 rb a s q vc nilS nilS codes (fun _ => nilS) 0 true) w5 := by
    have h9 := hH3.perm (L' := [oOwn 24 1 t vc (codes.map (Value.int .i64)), oBox b7 [vc, nilS, nilS, .slice (some ⟨gb, 0, none⟩) (n * n) (n * n), .bool true], oBox rb z5, oBox gb ((List.range (n * n)).map fun _ => nilS)] ++ NObs n a (pOf n s) q) (by
      show List.Perm (_ :: _ :: _ :: _ :: NObs n a (pOf n s) q) (_ :: _ :: _ :: _ :: NObs n a (pOf n s) q)
      exact (List.perm_append_comm (l₁ := [_]) (l₂ := [_, _, _])).append_right (NObs n a (pOf n s) q))
    exact ((h9.st_add (o := oOwn 3 1 0 nilS []) (Below.refl _ _) (OwnK.nil _ _ _ _) (fun g hg => by cases hg)).hp.st_add (o := oOwn 3 1 0 nilS []) (Below.refl _ _) (OwnK.nil _ _ _ _) (fun g hg => by cases hg)).hp
  refine loop_slots Fa.mix [60] [12, 61, 62, 63, 64, 65, 66, 67, 68, 69, 70, 71, 72, 73, 74, 75, 76, 77, 78, 79, 80, 81, 82, 83, 84, 85, 86] (fun m vs wx => ∃ (j : Nat) (mv ov : Value), j + m = n ∧ vs = [.int .i64 j] ∧ Below rb w wx ∧ Hp rb (LEnd n t gb b7 rb a s q vc mv ov codes (fun _ => nilS) j (allOwn s j)) wx) n (by kernel_rfl) rfl
    ⟨0, nilS, nilS, by omega, rfl, hB3, hHl⟩ ?_
  clear hHl hH3 hB3 hH2 hB2 st3 b0 f3 k3 hol bw x0 hwl
  rintro m2 vs u4 wx2 ⟨j, mv, ov, hjm, rfl, hBx, hH⟩
  by_cases hj : j < n
  · have e9 : ((j : Int) < n) = True := eq_true (by omega)
    have hR : Recs wx2 a.gp n 2 (fun k => prL (pOf n s) k) := hH.get 7 rfl
    obtain ⟨Aw, cw, rfl, _⟩ := id (hH.get 0 rfl : OwnK wx2 0 3 1 j mv _)
    obtain ⟨Ab, cb, rfl, _⟩ := id (hH.get 1 rfl : OwnK wx2 0 3 1 j ov _)
    have t0 : _ = some (iV (s.money j)) := hR.at hj (j := 0) (by omega) rfl
    have t1 : _ = some (iV (s.own j)) := hR.at hj (j := 1) (by omega) rfl
    have hgl := hR.1
    rw [Nat.add_zero] at t0
    simp -dsimp (maxSteps := 2000000) only [Fa.F24, e9, rdI_of t0, t0, rdI_of t1, t1, hgl, Int.toNat_natCast, Nat.zero_add, VC.Now, VC.vc, VC.lib, VC.mapN_drewN, VC.mapB_drewN, VC.regQ, VC.loopK, VC.reg, VC.opP, VC.opS, VC.opZ, VC.nomulB, VC.pv, VC.thenF, VC.blkF, VC.retF, VC.resV, VC.oneV, VC.evo, VC.bin, VC.binI, VC.cmpI, VC.arithI, VC.ldv, VC.slv, VC.pickP, VC.holds, VC.chainOf, VC.look, VC.junk, VC.put, VC.eff, VC.callee, VC.pureB, VC.rdK, VC.rdKs, VC.okKs, VC.eqKs, VC.fillL, VC.putL, VC.stW, VC.stOK, VC.mixF, VC.setAll, Nat.reduceAdd, Nat.reduceSub, Nat.reduceMul, if_true, if_false, ↓reduceIte, forall_const, implies_true, reduceCtorEq, ne_eq, Nat.reduceBNe, Nat.reduceBEq, IntKind.signed, Nat.reduceEqDiff, Nat.reduceLeDiff, Nat.reduceLT, eq_self, Int.reduceEq, Int.reduceLT, Int.reduceLE, Int.reduceAdd, Int.reduceSub, VC.regC_nil, VC.regC_cons, VC.regCK_eq, VC.callQ, VC.tailQ, VC.goCall, VC.chStep]
    refine ⟨by omega, ?_⟩
    have hsay : Box (wx2.alloc (.cells #[iV (s.money j), iV (s.own j)] 153)) wx2.heap.size [iV (s.money j), iV (s.own j)] := Box.new wx2 _ _
    have hBs : Below wx2.heap.size wx2 (wx2.alloc (.cells #[iV (s.money j), iV (s.own j)] 153)) := (Below.refl _ _).alloc (Nat.le_refl _) _
    change WP _ _ _ _ _ _ (wx2.alloc (.cells #[iV (s.money j), iV (s.own j)] 153))
    generalize wx2.alloc (.cells #[iV (s.money j), iV (s.own j)] 153) = wy at hsay hBs ⊢
    have hHy := hH.below hBs
    have hBy : Below rb w wy := hBx.trans (hBs.mono hH.base)
    have nw : (Value.slice Aw j cw).ownBlock ≠ some wx2.heap.size := fun hf => by have := (hH.lt 0 rfl hf).2; omega
    have nb : (Value.slice Ab j cb).ownBlock ≠ some wx2.heap.size := fun hf => by have := (hH.lt 1 rfl hf).2; omega
    have n7s : b7 ≠ wx2.heap.size := fun e => by have := (hH.lt 3 rfl (g := b7) rfl).2; omega
    generalize wx2.heap.size = sb at hsay hBs nw nb n7s ⊢
    have hby := hsay.1
    have z0 := hsay.at (i := 0) rfl
    have z1 := hsay.at (i := 1) rfl
    have bx7 : Box wy b7 _ := hHy.get 3 rfl
    have y1 := bx7.at (i := 1) rfl
    have y2 := bx7.at (i := 2) rfl
    have hwl := bx7.1
    have n7w : (Value.slice Aw j cw).ownBlock ≠ some b7 := fun hf => hHy.ne 0 3 (by decide) rfl rfl _ hf rfl
    have n7b : (Value.slice Ab j cb).ownBlock ≠ some b7 := fun hf => hHy.ne 1 3 (by decide) rfl rfl _ hf rfl
    have hHd := hHy.drewN 1
    refine WP_held 13 (fun bk => (Value.slice Aw j cw).ownBlock = some bk ∨ (Value.slice Ab j cb).ownBlock = some bk) (.take 0 (.take 1 (.take 2 (.take 3 (.take 6 (.take 7 (.any [4,5,10,11,8,9,12] (.last 13 (.take 14 (.one 15 .done)))))))))) Fa.mix (by kernel_rfl) rfl ?_
    simp -dsimp (maxSteps := 2000000) only [VC.heldF_done, VC.heldF_last, VC.planF_done, VC.planF_take, VC.planF_one, VC.planF_two, VC.planK_eq, VC.heldF_take, VC.heldF_one, VC.heldF_two, VC.heldF_twoL, VC.heldK_eq, VC.okRd, Fa.F24, rdI_of z0, z0, rdI_of z1, z1, rdSA_of y1, rdSN_of y1, rdSC_of y1, y1, rdSA_of y2, rdSN_of y2, rdSC_of y2, y2, hwl, VC.Now, VC.vc, VC.lib, VC.mapN_drewN, VC.mapB_drewN, VC.regQ, VC.loopK, VC.reg, VC.opP, VC.opS, VC.opZ, VC.nomulB, VC.pv, VC.thenF, VC.blkF, VC.retF, VC.resV, VC.oneV, VC.evo, VC.bin, VC.binI, VC.cmpI, VC.arithI, VC.ldv, VC.slv, VC.pickP, VC.holds, VC.chainOf, VC.look, VC.junk, VC.put, VC.eff, VC.callee, VC.pureB, VC.rdK, VC.rdKs, VC.okKs, VC.eqKs, VC.fillL, VC.putL, VC.stW, VC.stOK, VC.mixF, VC.setAll, Nat.reduceAdd, Nat.reduceSub, Nat.reduceMul, if_true, if_false, ↓reduceIte, forall_const, implies_true, reduceCtorEq, ne_eq, Nat.reduceBNe, Nat.reduceBEq, IntKind.signed, Nat.reduceEqDiff, Nat.reduceLeDiff, Nat.reduceLT, eq_self, Int.reduceEq, Int.reduceLT, Int.reduceLE, Int.reduceAdd, Int.reduceSub, VC.regC_nil, VC.regC_cons, VC.regCK_eq, VC.callQ, VC.tailQ, VC.goCall, VC.chStep]
    refine ⟨fun h => h.elim n7w n7b, ⟨hby, fun h => h.elim nw nb⟩, fun h => h.elim n7w n7b, ?_⟩
    refine apps_two (D := [68, 69, 74, 75, 72, 73, 76]) (fun | 0 => ⟨4, 5, 68, 69, 67, 65, 23, 3, j, .slice Aw j cw, iV (s.money j), monL s j⟩ | _ => ⟨10, 11, 74, 75, 73, 71, 23, 3, j, .slice Ab j cb, iV (s.own j), ownL s j⟩) rb [⟨8, 72, .pointer (some ⟨sb, 1, none⟩)⟩, ⟨9, 73, iV (s.own j)⟩, ⟨12, 76, .pointer (some ⟨b7, 1, none⟩)⟩]
      rfl rfl rfl (ApSep.two (by simp) (by simp)) ?_ ?_ ?_ ?_ hHd ?_
    · refine all_two ⟨⟨_, .mk0 rfl rfl rfl, Or.inl ⟨rfl, by simp [apD]⟩⟩, .mk1 rfl rfl rfl (by first | rfl | kernel_rfl), Fa.elo23, ⟨_, Fa.zco3⟩, Fa.kOf23, ⟨_, _, Fa.apI23, by decide⟩, rfl, rfl, rfl, Nat.le_of_ble_eq_true rfl, Nat.le_of_ble_eq_true rfl, by show j + 1 ≤ 100000; omega, by simp [apD]⟩
        ⟨⟨_, .mk1 (j := 9) rfl rfl rfl (by first | rfl | kernel_rfl), Or.inr ⟨_, List.mem_cons_of_mem _ (List.mem_cons_self ..), rfl, rfl, List.mem_singleton.2 rfl⟩⟩, .mk1 rfl rfl rfl (by first | rfl | kernel_rfl), Fa.elo23, ⟨_, Fa.zco3⟩, Fa.kOf23, ⟨_, _, Fa.apI23, by decide⟩, rfl, rfl, rfl, Nat.le_of_ble_eq_true rfl, Nat.le_of_ble_eq_true rfl, by show j + 1 ≤ 100000; omega, by simp [apD]⟩
    · intro x hx
      simp only [List.mem_cons, List.not_mem_nil, or_false] at hx
      rcases hx with rfl | rfl | rfl
      · exact ⟨.field _ _ _ _ _ _ _ _ _ (.mk0 rfl rfl rfl) Fa.fldo153_1 (by decide) (Or.inl ⟨rfl, by simp [apD]⟩) rfl (Nat.le_of_ble_eq_true rfl), by simp [apG], by simp [apD]⟩
      · exact ⟨.load _ _ sb 1 _ (.mk1 (j := 8) rfl rfl rfl (by first | rfl | kernel_rfl)) Fa.isAggB3 Fa.knownB3 (Or.inr ⟨_, List.mem_cons_self .., rfl, rfl, List.mem_singleton.2 rfl⟩) z1 (fun w1 hc => by rw [Fa.kOf3]; exact congrArg _ (rdI_of hc)) (fun ⟨a, ha, hk2⟩ => by
          have : a = 0 ∨ a = 1 := by omega
          rcases this with rfl | rfl
          · exact nw hk2
          · exact nb hk2) hby (Nat.le_of_ble_eq_true rfl), by simp [apG], by simp [apD]⟩
      · exact ⟨.field _ _ _ _ _ _ _ _ _ (.mk0 rfl rfl rfl) Fa.fldo56_1 (by decide) (Or.inl ⟨rfl, by simp [apD]⟩) rfl (Nat.le_of_ble_eq_true rfl), by simp [apG], by simp [apD]⟩
    · intro x hx y hy
      simp only [List.mem_cons, List.not_mem_nil, or_false] at hx hy
      rcases hx with rfl | rfl | rfl <;> rcases hy with rfl | rfl | rfl <;> simp
    · intro w' hA
      exact ((Agree.refl _ _).drewN 1).trans (hA.mono fun bk _ hX => by
        obtain ⟨a, ha, hk2⟩ := hX
        have : a = 0 ∨ a = 1 := by omega
        rcases this with rfl | rfl
        · exact Or.inl hk2
        · exact Or.inr hk2)
    · intro g2 w' A5 c5 A6 c6 e5 e6 hx2 hH2 hA2
      have e5 : g2 69 = .slice A5 (j + 1) c5 := e5
      have e6 : g2 75 = .slice A6 (j + 1) c6 := e6
      have e7 : g2 76 = .pointer (some ⟨b7, 1, none⟩) := hx2 ⟨12, 76, .pointer (some ⟨b7, 1, none⟩)⟩ (.tail _ (.tail _ (.head _)))
      have hHe : Hp rb ([oOwn 3 1 (j + 1) (g2 69) (monL s j ++ [iV (s.money j)]), oOwn 3 1 (j + 1) (g2 75) (ownL s j ++ [iV (s.own j)])] ++ ([oOwn 24 1 t vc (codes.map (Value.int .i64)), oBox b7 [vc, .slice Aw j cw, .slice Ab j cb, .slice (some ⟨gb, 0, none⟩) (n * n) (n * n), .bool (allOwn s j)], oBox rb z5, oBox gb ((List.range (n * n)).map fun _ => nilS)] ++ NObs n a (pOf n s) q)) w' := hH2
      rw [e5, e6, ← monL_succ, ← ownL_succ] at hHe
      have st1 := hHe.setBox 3 rfl 1 (.slice A5 (j + 1) c5)
      have st2 := st1.hp.setBox 3 rfl 2 (.slice A6 (j + 1) c6)
      have f7 : Box w' b7 _ := hHe.get 3 rfl
      have f7' : Box (w'.setCell ⟨b7, 1, none⟩ (.slice A5 (j + 1) c5)) b7 _ := st1.hp.get 3 rfl
      have r1 : (w'.cell? ⟨b7, 1, none⟩).isSome = true ∧ w'.frozen? ⟨b7, 1, none⟩ = false := ⟨by rw [f7.at (i := 1) rfl]; rfl, f7.soft (by show 1 < 5; omega)⟩
      have r2 : ((w'.setCell ⟨b7, 1, none⟩ (.slice A5 (j + 1) c5)).cell? ⟨b7, 2, none⟩).isSome = true ∧ (w'.setCell ⟨b7, 1, none⟩ (.slice A5 (j + 1) c5)).frozen? ⟨b7, 2, none⟩ = false := ⟨by rw [f7'.at (i := 2) rfl]; rfl, f7'.soft (by show 2 < 5; omega)⟩
      have hl7 := f7.1
      have hl7' := f7'.1
      have hAll : Agree (fun i => rb ≤ i ∧ i ≠ sb) wy w' := ((Agree.refl _ wy).drewN 1).trans (hA2.mono fun i _ hX => by
        obtain ⟨a, ha, hi⟩ := hX
        have : a = 0 ∨ a = 1 := by omega
        rcases this with rfl | rfl
        · exact ⟨(hHd.lt 0 rfl hi).1, fun e => nw (by rw [← e]; exact hi)⟩
        · exact ⟨(hHd.lt 1 rfl hi).1, fun e => nb (by rw [← e]; exact hi)⟩)
      have hBe : Below rb w w' := hAll.to_below hBy hHy.base fun i hi => hi.1
      have hsay9 := (hsay.agree hAll (fun hh => hh.2 rfl)).agree (Agree.setCell (X := fun g => g = b7) w' (.slice A5 (j + 1) c5) (a := ⟨b7, 1, none⟩) rfl) (fun e => n7s e.symm)
      have hsay10 := hsay9.agree (Agree.setCell (X := fun g => g = b7) _ (.slice A6 (j + 1) c6) (a := ⟨b7, 2, none⟩) rfl) (fun e => n7s e.symm)
      have q1 := hsay10.at (i := 1) rfl
      have hq1 := hsay10.1
      have b9 : Box _ b7 _ := st2.hp.get 3 rfl
      have q4 := b9.at (i := 4) rfl
      have f4 := b9.soft (i := 4) (by show 4 < 5; omega)
      have k4 : (((w'.setCell ⟨b7, 1, none⟩ (.slice A5 (j + 1) c5)).setCell ⟨b7, 2, none⟩ (.slice A6 (j + 1) c6)).cell? ⟨b7, 4, none⟩).isSome = true := by rw [q4]; rfl
      have hl9 := b9.1
      have st9 := st2.hp.setBox 3 rfl 4 (.bool (allOwn s (j + 1)))
      have hB9 := hBe.trans ((st1.trans (st2.trans st9)).below hHe)
      cases hdj : allOwn s j with
      | false =>
        have hd1 : allOwn s (j + 1) = false := by show (allOwn s j && _) = false; rw [hdj]; rfl
        rw [hdj] at q4
        rw [hd1] at st9 hB9
        simp -dsimp (maxSteps := 2000000) only [VC.heldF_done, VC.heldF_last, VC.planF_done, VC.planF_take, VC.planF_one, VC.planF_two, VC.planK_eq, VC.heldF_take, VC.heldF_one, VC.heldF_two, VC.heldF_twoL, VC.heldK_eq, VC.okRd, Fa.F24, VC.setD, e5, e6, e7, hl7, hl7', rdB_of q4, q4, hl9, f4, k4, undef, tu, uf, ul, ur, VC.Now, VC.vc, VC.lib, VC.mapN_drewN, VC.mapB_drewN, VC.regQ, VC.loopK, VC.reg, VC.opP, VC.opS, VC.opZ, VC.nomulB, VC.pv, VC.thenF, VC.blkF, VC.retF, VC.resV, VC.oneV, VC.evo, VC.bin, VC.binI, VC.cmpI, VC.arithI, VC.ldv, VC.slv, VC.pickP, VC.holds, VC.chainOf, VC.look, VC.junk, VC.put, VC.eff, VC.callee, VC.pureB, VC.rdK, VC.rdKs, VC.okKs, VC.eqKs, VC.fillL, VC.putL, VC.stW, VC.stOK, VC.mixF, VC.setAll, Nat.reduceAdd, Nat.reduceSub, Nat.reduceMul, if_true, if_false, ↓reduceIte, forall_const, implies_true, reduceCtorEq, ne_eq, Nat.reduceBNe, Nat.reduceBEq, IntKind.signed, Nat.reduceEqDiff, Nat.reduceLeDiff, Nat.reduceLT, eq_self, Int.reduceEq, Int.reduceLT, Int.reduceLE, Int.reduceAdd, Int.reduceSub, VC.regC_nil, VC.regC_cons, VC.regCK_eq, VC.callQ, VC.tailQ, VC.goCall, VC.chStep]
        refine ⟨r1, r2, fits_i64_nat (by omega), SAME.intro (by kernel_rfl), m2 - 1, by omega, j + 1, .slice A5 (j + 1) c5, .slice A6 (j + 1) c6, by omega, rfl, hB9, ?_⟩
        rw [hd1]
        exact st9.hp
      | true =>
        rw [hdj] at q4
        by_cases ho : s.own j = -1
        · have eo := eq_true ho
          have hd1 : allOwn s (j + 1) = false := by show (allOwn s j && decide (¬ s.own j = -1)) = false; rw [ho]; simp
          rw [hd1] at st9 hB9
          simp -dsimp (maxSteps := 2000000) only [VC.heldF_done, VC.heldF_last, VC.planF_done, VC.planF_take, VC.planF_one, VC.planF_two, VC.planK_eq, VC.heldF_take, VC.heldF_one, VC.heldF_two, VC.heldF_twoL, VC.heldK_eq, VC.okRd, Fa.F24, VC.setD, e5, e6, e7, hl7, hl7', rdB_of q4, q4, rdI_of q1, q1, hq1, hl9, f4, k4, eo, undef, tu, uf, ul, ur, VC.Now, VC.vc, VC.lib, VC.mapN_drewN, VC.mapB_drewN, VC.regQ, VC.loopK, VC.reg, VC.opP, VC.opS, VC.opZ, VC.nomulB, VC.pv, VC.thenF, VC.blkF, VC.retF, VC.resV, VC.oneV, VC.evo, VC.bin, VC.binI, VC.cmpI, VC.arithI, VC.ldv, VC.slv, VC.pickP, VC.holds, VC.chainOf, VC.look, VC.junk, VC.put, VC.eff, VC.callee, VC.pureB, VC.rdK, VC.rdKs, VC.okKs, VC.eqKs, VC.fillL, VC.putL, VC.stW, VC.stOK, VC.mixF, VC.setAll, Nat.reduceAdd, Nat.reduceSub, Nat.reduceMul, if_true, if_false, ↓reduceIte, forall_const, implies_true, reduceCtorEq, ne_eq, Nat.reduceBNe, Nat.reduceBEq, IntKind.signed, Nat.reduceEqDiff, Nat.reduceLeDiff, Nat.reduceLT, eq_self, Int.reduceEq, Int.reduceLT, Int.reduceLE, Int.reduceAdd, Int.reduceSub, VC.regC_nil, VC.regC_cons, VC.regCK_eq, VC.callQ, VC.tailQ, VC.goCall, VC.chStep]
          refine ⟨r1, r2, fits_i64_nat (by omega), SAME.intro (by kernel_rfl), m2 - 1, by omega, j + 1, .slice A5 (j + 1) c5, .slice A6 (j + 1) c6, by omega, rfl, hB9, ?_⟩
          rw [hd1]
          exact st9.hp
        · have eo := eq_false ho
          have hd1 : allOwn s (j + 1) = true := by show (allOwn s j && decide (¬ s.own j = -1)) = true; rw [hdj, decide_eq_true ho]; rfl
          rw [hd1] at st9 hB9
          simp -dsimp (maxSteps := 2000000) only [VC.heldF_done, VC.heldF_last, VC.planF_done, VC.planF_take, VC.planF_one, VC.planF_two, VC.planK_eq, VC.heldF_take, VC.heldF_one, VC.heldF_two, VC.heldF_twoL, VC.heldK_eq, VC.okRd, Fa.F24, VC.setD, e5, e6, e7, hl7, hl7', rdB_of q4, q4, rdI_of q1, q1, hq1, hl9, f4, k4, eo, undef, tu, uf, ul, ur, VC.Now, VC.vc, VC.lib, VC.mapN_drewN, VC.mapB_drewN, VC.regQ, VC.loopK, VC.reg, VC.opP, VC.opS, VC.opZ, VC.nomulB, VC.pv, VC.thenF, VC.blkF, VC.retF, VC.resV, VC.oneV, VC.evo, VC.bin, VC.binI, VC.cmpI, VC.arithI, VC.ldv, VC.slv, VC.pickP, VC.holds, VC.chainOf, VC.look, VC.junk, VC.put, VC.eff, VC.callee, VC.pureB, VC.rdK, VC.rdKs, VC.okKs, VC.eqKs, VC.fillL, VC.putL, VC.stW, VC.stOK, VC.mixF, VC.setAll, Nat.reduceAdd, Nat.reduceSub, Nat.reduceMul, if_true, if_false, ↓reduceIte, forall_const, implies_true, reduceCtorEq, ne_eq, Nat.reduceBNe, Nat.reduceBEq, IntKind.signed, Nat.reduceEqDiff, Nat.reduceLeDiff, Nat.reduceLT, eq_self, Int.reduceEq, Int.reduceLT, Int.reduceLE, Int.reduceAdd, Int.reduceSub, VC.regC_nil, VC.regC_cons, VC.regCK_eq, VC.callQ, VC.tailQ, VC.goCall, VC.chStep]
          refine ⟨r1, r2, fits_i64_nat (by omega), SAME.intro (by kernel_rfl), m2 - 1, by omega, j + 1, .slice A5 (j + 1) c5, .slice A6 (j + 1) c6, by omega, rfl, hB9, ?_⟩
          rw [hd1]
          exact st9.hp
  · obtain rfl : j = n := by omega
    have e9 : ((j : Int) < j) = False := eq_false (by omega)
    clear e8 hnn hm hjm hj hce
    revert A c0 A2 cap m g w wa rb u w1 w2 a w9 b7 mm u3 wx t q vc codes s wy w4 gb w5 m2 u4 wx2 j mv ov
    exact HH.1
end Go.Proofs.Ytelfmhiaafkimaa
