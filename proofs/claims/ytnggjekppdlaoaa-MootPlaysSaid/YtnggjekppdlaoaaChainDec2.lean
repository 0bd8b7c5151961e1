/- What is decided by certified blocks: the program's walk. -/
import Derived.Test.YtnggjekppdlaoaaChainDec
namespace Go.Proofs.Ytnggjekppdlaoaa
open Go Go.RowKit Go.VC
set_option linter.unusedSimpArgs false
set_option linter.unusedVariables false

set_option maxRecDepth 8000 in
set_option maxHeartbeats 2000000 in
theorem decided_any (A C : Option Addr) (n c d : Nat) (p r : Nat → Int) (cl : List Bool) (w : World) (hr : RdBlk w A n p r) (hC : Rd w C (cl.map Value.bool)) (hcl : cl.length = n) (hok0 : blkCode n p r = 0) :
    Calls Try.prog 74 #[.slice A n c, .slice C n d] w fun e w' => ∃ v, e = .returned v ∧ OwnV w' w.heap.size 4 v ((onL n (decF cl p r n)).map Value.bool) ∧ Below w.heap.size w w' := by
  obtain ⟨hn, hn0, hok⟩ := blkCode_ok hok0
  have hu := up_of hok
  obtain ⟨ab, ao, rfl, hab, hcells⟩ := hr hn0
  obtain ⟨cb, co, rfl, hcb, hcert⟩ := hC.all (by omega) false
  refine calls_vcM (rs := [.tmp 4]) Fa.mix Try.func74 rfl Try.ntmps74 rfl (by kernel_rfl) (Nat.le_of_ble_eq_true rfl) ?_
  simp -dsimp only [VC.vcM, VC.fixM, VC.thenM, VC.blkM, VC.retM, VC.rndF, VC.asgF, VC.loopKM, Fa.F74, VC.Now, VC.vc, VC.lib, VC.regQ, VC.loopK, VC.reg, VC.opP, VC.pv, VC.thenF, VC.blkF, VC.retF, VC.resV, VC.oneV, VC.evo, VC.bin, VC.binI, VC.cmpI, VC.arithI, VC.ldv, VC.slv, VC.pickP, VC.holds, VC.chainOf, VC.look, VC.junk, VC.put, VC.eff, VC.callee, VC.pureB, VC.rdK, VC.rdKs, VC.okKs, VC.eqKs, VC.fillL, VC.putL, VC.stW, VC.stOK, VC.mixF, VC.setAll, Nat.reduceAdd, Nat.reduceSub, Nat.reduceMul, if_true, if_false, ↓reduceIte, forall_const, implies_true, reduceCtorEq, ne_eq, Nat.reduceBNe, Nat.reduceBEq, IntKind.signed, Nat.reduceEqDiff, Nat.reduceLeDiff, Nat.reduceLT, eq_self, Int.reduceEq, Int.reduceLT, Int.reduceLE, Int.reduceAdd, Int.reduceSub, VC.regC_nil, VC.regC_cons, VC.regCK_eq, VC.callQ, VC.tailQ, VC.goCall, VC.chStep]
  refine OPW_make rfl Fa.apI24 rfl rfl rfl rfl (by omega) (by omega) (Nat.le_refl _) fun w1 ho hg => ?_
  have hB1 : Below w.heap.size w w1 := (Below.refl _ w).grown hg (Nat.le_refl _) (fun k hk => by cases hk)
  have ho1 : OwnV w1 w.heap.size 4 (.slice (some ⟨w.heap.size, 0, none⟩) n n) ((onL n (decF cl p r 0)).map Value.bool) := by
    have e : (onL n (decF cl p r 0)).map Value.bool = List.replicate n (.bool false) := by
      rw [show decF cl p r 0 = fun _ => false from rfl, onL_false, List.map_replicate]
    rw [e]; exact OwnV.of ho
  have hgl : w.heap.size < w1.heap.size := by
    obtain ⟨g, cc, hv, h1, h2⟩ := ho1.form (by rw [List.length_map, onL_length]; exact hn0)
    simp only [Value.slice.injEq, Option.some.injEq, Addr.mk.injEq] at hv
    omega
  simp -dsimp only [VC.vcM, VC.fixM, VC.thenM, VC.blkM, VC.retM, VC.rndF, VC.asgF, VC.loopKM, Fa.F74, VC.Now, VC.vc, VC.lib, VC.regQ, VC.loopK, VC.reg, VC.opP, VC.pv, VC.thenF, VC.blkF, VC.retF, VC.resV, VC.oneV, VC.evo, VC.bin, VC.binI, VC.cmpI, VC.arithI, VC.ldv, VC.slv, VC.pickP, VC.holds, VC.chainOf, VC.look, VC.junk, VC.put, VC.eff, VC.callee, VC.pureB, VC.rdK, VC.rdKs, VC.okKs, VC.eqKs, VC.fillL, VC.putL, VC.stW, VC.stOK, VC.mixF, VC.setAll, Nat.reduceAdd, Nat.reduceSub, Nat.reduceMul, if_true, if_false, ↓reduceIte, forall_const, implies_true, reduceCtorEq, ne_eq, Nat.reduceBNe, Nat.reduceBEq, IntKind.signed, Nat.reduceEqDiff, Nat.reduceLeDiff, Nat.reduceLT, eq_self, Int.reduceEq, Int.reduceLT, Int.reduceLE, Int.reduceAdd, Int.reduceSub, VC.regC_nil, VC.regC_cons, VC.regCK_eq, VC.callQ, VC.tailQ, VC.goCall, VC.chStep]
  generalize hw2 : w1.alloc (.cells #[.slice (some ⟨w.heap.size, 0, none⟩) n n] 24) = w2
  have hs2 : w2.heap.size = w1.heap.size + 1 := by rw [← hw2]; simp
  have hB2 : Below w1.heap.size w1 w2 := by rw [← hw2]; exact below_box (Below.refl _ _) _
  have hbox : w2.cell? ⟨w1.heap.size, 0, none⟩ = some (.slice (some ⟨w.heap.size, 0, none⟩) n n) := by rw [← hw2, World.cell?_alloc_new]; rfl
  refine loop_slotsM Fa.mix [14] [6, 7, 8, 15, 16, 17, 18, 19, 20, 21, 22, 23, 24, 25, 26, 27, 28, 29, 30, 31, 32, 33, 34, 35, 36, 37, 38, 39, 40, 41, 42, 43, 44, 45, 46, 47, 48, 49, 50, 51, 53, 54, 55, 56] (fun m vs ds wr => ∃ k : Nat, k + m = n ∧ vs = [.int .i64 k] ∧ OwnV wr w.heap.size 4 (.slice (some ⟨w.heap.size, 0, none⟩) n n) ((onL n (decF cl p r k)).map Value.bool) ∧
      Agree (fun j => j = w.heap.size) w2 wr ∧ Marks wr w2.heap.size ds) n (by kernel_rfl) rfl ⟨0, by omega, rfl, ho1.below hB2, Agree.refl _ _, trivial⟩ ?_
  rintro m vs u ds wr ⟨k, hkm, rfl, hor, hA, hM⟩
  have hsr := hA.size
  have cellP : ∀ {W : World} {X : Nat → Prop}, Agree X w2 W → (∀ j, X j → j = w.heap.size ∨ w2.heap.size ≤ j) → ∀ j, j < n → W.cell? ⟨ab, ao + j * 2, none⟩ = some (.int .i64 (p j)) ∧ W.cell? ⟨ab, ao + j * 2 + 1, none⟩ = some (.int .i64 (r j)) ∧ W.cell? ⟨cb, co + j, none⟩ = some (.bool (cl.getD j false)) := by
    intro W X hAX hX j hj
    obtain ⟨q1, q2, _⟩ := hcells j hj
    have q3 := hcert j (by omega)
    have hxa : ¬ X ab := fun h => by have := hX ab h; omega
    have hxc : ¬ X cb := fun h => by have := hX cb h; omega
    have b1 : ∀ o, w2.cell? ⟨ab, o, none⟩ = w.cell? ⟨ab, o, none⟩ := fun o => (hB2.cell (p := ⟨ab, o, none⟩) (Nat.lt_trans hab hgl)).trans (hB1.cell (p := ⟨ab, o, none⟩) hab)
    have b2 : ∀ o, w2.cell? ⟨cb, o, none⟩ = w.cell? ⟨cb, o, none⟩ := fun o => (hB2.cell (p := ⟨cb, o, none⟩) (Nat.lt_trans hcb hgl)).trans (hB1.cell (p := ⟨cb, o, none⟩) hcb)
    exact ⟨((hAX.cell (by omega) hxa).trans (b1 _)).trans q1, ((hAX.cell (by omega) hxa).trans (b1 _)).trans q2, ((hAX.cell (by omega) hxc).trans (b2 _)).trans q3⟩
  by_cases hk : k < n
  · obtain ⟨q1, q2, q3⟩ := cellP hA (fun j h => .inl h) k hk
    have habr : ab < wr.heap.size := by omega
    have hcbr : cb < wr.heap.size := by omega
    have hskip : ∀ d, goodB cl p r k = false → ∃ k' : Nat, k' + (m - 1) = n ∧ [Value.int .i64 ((k : Int) + 1)] = [.int .i64 k'] ∧ OwnV ((wr.alloc (.cells #[.int .i64 (p k), .int .i64 (r k)] 116)).drewN d) w.heap.size 4 (.slice (some ⟨w.heap.size, 0, none⟩) n n) ((onL n (decF cl p r k')).map Value.bool) ∧
        Agree (fun j => j = w.heap.size) w2 ((wr.alloc (.cells #[.int .i64 (p k), .int .i64 (r k)] 116)).drewN d) ∧ Marks ((wr.alloc (.cells #[.int .i64 (p k), .int .i64 (r k)] 116)).drewN d) w2.heap.size ds := by
      intro d hg
      have hal : Below wr.heap.size wr (wr.alloc (.cells #[.int .i64 (p k), .int .i64 (r k)] 116)) := below_box (Below.refl _ _) _
      refine ⟨k + 1, by omega, rfl, ?_, (hA.trans (Agree.of_below hal)).drewN d, hM.keep fun D hm hD => ?_⟩
      · rw [decF_skip hg]; exact (hor.below hal).drewN d
      · exact (hal.block D (Array.getElem?_eq_some_iff.1 hD).1).trans hD
    by_cases hk0 : k = 0
    · have e1 : ((k : Int) = 0) = True := eq_true (by omega)
      simp -dsimp only [VC.vcM, VC.fixM, VC.thenM, VC.blkM, VC.retM, VC.rndF, VC.asgF, VC.loopKM, Fa.F74, rdI_of q1, q1, rdI_of q2, q2, rdB_of q3, q3, habr, hcbr, e1, VC.Now, VC.vc, VC.lib, VC.regQ, VC.loopK, VC.reg, VC.opP, VC.pv, VC.thenF, VC.blkF, VC.retF, VC.resV, VC.oneV, VC.evo, VC.bin, VC.binI, VC.cmpI, VC.arithI, VC.ldv, VC.slv, VC.pickP, VC.holds, VC.chainOf, VC.look, VC.junk, VC.put, VC.eff, VC.callee, VC.pureB, VC.rdK, VC.rdKs, VC.okKs, VC.eqKs, VC.fillL, VC.putL, VC.stW, VC.stOK, VC.mixF, VC.setAll, Nat.reduceAdd, Nat.reduceSub, Nat.reduceMul, if_true, if_false, ↓reduceIte, forall_const, implies_true, reduceCtorEq, ne_eq, Nat.reduceBNe, Nat.reduceBEq, IntKind.signed, Nat.reduceEqDiff, Nat.reduceLeDiff, Nat.reduceLT, eq_self, Int.reduceEq, Int.reduceLT, Int.reduceLE, Int.reduceAdd, Int.reduceSub, VC.regC_nil, VC.regC_cons, VC.regCK_eq, VC.callQ, VC.tailQ, VC.goCall, VC.chStep]
      refine ⟨fun _ => ?_, fun h => absurd h (by omega)⟩
      repeat first | refine ⟨by omega, ?_⟩ | refine ⟨fun _ => by omega, ?_⟩ | intro _
      refine ⟨fits_i64_nat (by omega), SAME.intro (by kernel_rfl), m - 1, by omega, hskip _ (by subst hk0; simp [goodB])⟩
    · have e1 : ((k : Int) = 0) = False := eq_false (by omega)
      obtain ⟨p1, p2⟩ := hu k (by omega) hk
      obtain ⟨b0, hb0⟩ : ∃ b0 : Nat, p k = b0 := ⟨(p k).toNat, by omega⟩
      obtain ⟨q4, q5, q6⟩ := cellP hA (fun j h => .inl h) b0 (by omega)
      have hrise : r b0 < r k := by
        have := hok.2.2 k (by omega) hk
        unfold badB at this
        rw [hb0, Int.toNat_natCast] at this
        omega
      have hfit : fits .i64 (r b0 + 1) := by
        have h1 := of_fits_i64 (hcells k hk).2.2.2; have h2 := of_fits_i64 (hcells b0 (by omega)).2.2.2
        exact fits_i64 (by omega) (by omega)
      have hgood : goodB cl p r k = (cl.getD k false && cl.getD b0 false && decide (r k = r b0 + 1)) := by
        unfold goodB; rw [hb0, Int.toNat_natCast, decide_eq_true (by omega)]; simp
      rw [hb0] at q1 hskip
      simp -dsimp only [VC.vcM, VC.fixM, VC.thenM, VC.blkM, VC.retM, VC.rndF, VC.asgF, VC.loopKM, Fa.F74, rdI_of q1, q1, rdI_of q2, q2, rdB_of q3, q3, rdI_of q4, q4, rdI_of q5, q5, rdB_of q6, q6, habr, hcbr, e1, VC.Now, VC.vc, VC.lib, VC.regQ, VC.loopK, VC.reg, VC.opP, VC.pv, VC.thenF, VC.blkF, VC.retF, VC.resV, VC.oneV, VC.evo, VC.bin, VC.binI, VC.cmpI, VC.arithI, VC.ldv, VC.slv, VC.pickP, VC.holds, VC.chainOf, VC.look, VC.junk, VC.put, VC.eff, VC.callee, VC.pureB, VC.rdK, VC.rdKs, VC.okKs, VC.eqKs, VC.fillL, VC.putL, VC.stW, VC.stOK, VC.mixF, VC.setAll, Nat.reduceAdd, Nat.reduceSub, Nat.reduceMul, if_true, if_false, ↓reduceIte, forall_const, implies_true, reduceCtorEq, ne_eq, Nat.reduceBNe, Nat.reduceBEq, IntKind.signed, Nat.reduceEqDiff, Nat.reduceLeDiff, Nat.reduceLT, eq_self, Int.reduceEq, Int.reduceLT, Int.reduceLE, Int.reduceAdd, Int.reduceSub, VC.regC_nil, VC.regC_cons, VC.regCK_eq, VC.callQ, VC.tailQ, VC.goCall, VC.chStep]
      refine ⟨fun _ => ?_, fun h => absurd h (by omega)⟩
      repeat first | refine ⟨by omega, ?_⟩ | refine ⟨fun _ => by omega, ?_⟩ | refine ⟨fun _ => hfit, ?_⟩
      intro u1 m1
      refine ⟨fun hbad => ⟨fits_i64_nat (by omega), SAME.intro (by kernel_rfl), m - 1, by omega, hskip _ ?_⟩, fun hgo => ?_⟩
      · rw [hgood]
        cases h1 : cl.getD k false <;> cases h2 : cl.getD b0 false <;> simp_all
      · have hg1 : goodB cl p r k = true := by
          rw [hgood]
          cases h1 : cl.getD k false <;> cases h2 : cl.getD b0 false <;> simp_all
        generalize hw4 : (wr.alloc (.cells #[.int .i64 (b0 : Int), .int .i64 (r k)] 116)).drewN m1 = w4
        have hs4 : w4.heap.size = wr.heap.size + 1 := by rw [← hw4]; simp
        have hB4 : Below wr.heap.size wr w4 := by rw [← hw4]; exact below_drewN (below_box (Below.refl _ _) _) _
        have hA4 : Agree (fun j => j = w.heap.size) w2 w4 := hA.trans (Agree.of_below hB4)
        refine CALL_of (upFn_any _ n c b0 w4) fun w5 hw5 => ?_
        have hB5 : Below w4.heap.size w4 w5 := by rw [hw5]; exact below_box (below_box (Below.refl _ _) _) _
        have hs5 : w5.heap.size = w4.heap.size + 2 := by rw [hw5]; simp
        have hA5 : Agree (fun j => j = w.heap.size) w2 w5 := hA4.trans (Agree.of_below hB5)
        have c1 : w5.cell? ⟨w4.heap.size + 1, 0, none⟩ = some (.int .i64 b0) := by
          have e : w4.heap.size + 1 = (w4.alloc (.cells #[.slice (some ⟨ab, ao, none⟩) n c] 45)).heap.size := by simp
          rw [hw5, e, World.cell?_alloc_new]; rfl
        have c2 : w5.frozen? ⟨w4.heap.size + 1, 0, none⟩ = false := by
          have e : w4.heap.size + 1 = (w4.alloc (.cells #[.slice (some ⟨ab, ao, none⟩) n c] 45)).heap.size := by simp
          rw [hw5, e, World.frozen?_alloc_new]
        have c3 : w5.cell? ⟨w4.heap.size, 0, none⟩ = some (.slice (some ⟨ab, ao, none⟩) n c) := by
          rw [hw5, World.cell?_alloc_past _ _ _ (by simp), World.cell?_alloc_new]; rfl
        have hr5 : RdBlk w5 (some ⟨ab, ao, none⟩) n p r := fun _ => ⟨ab, ao, rfl, by omega, fun j hj => by
          obtain ⟨x1, x2, _⟩ := cellP hA5 (fun j h => .inl h) j hj
          exact ⟨x1, x2, (hcells j hj).2.2⟩⟩
        have hb0n : b0 < n := by omega
        have hit := up_iter _ n c p r b0 (w4.heap.size + 1) w4.heap.size w5 (fun j => j = w4.heap.size ∨ j = ab) hn hu hok.1 hb0n hr5 (by omega) c1 c2 c3 (.inl rfl) (by intro a ha; cases ha; exact ⟨.inr rfl, by simp only; omega⟩)
        have ho5 := ((hor.below hB4).below hB5)
        have hbox5 := (hA5.cell (o := 0) (show w1.heap.size < w2.heap.size by omega) (by omega)).trans hbox
        simp -dsimp only [VC.vcM, VC.fixM, VC.thenM, VC.blkM, VC.retM, VC.rndF, VC.asgF, VC.loopKM, Fa.F74, VC.Now, VC.vc, VC.lib, VC.regQ, VC.loopK, VC.reg, VC.opP, VC.pv, VC.thenF, VC.blkF, VC.retF, VC.resV, VC.oneV, VC.evo, VC.bin, VC.binI, VC.cmpI, VC.arithI, VC.ldv, VC.slv, VC.pickP, VC.holds, VC.chainOf, VC.look, VC.junk, VC.put, VC.eff, VC.callee, VC.pureB, VC.rdK, VC.rdKs, VC.okKs, VC.eqKs, VC.fillL, VC.putL, VC.stW, VC.stOK, VC.mixF, VC.setAll, Nat.reduceAdd, Nat.reduceSub, Nat.reduceMul, if_true, if_false, ↓reduceIte, forall_const, implies_true, reduceCtorEq, ne_eq, Nat.reduceBNe, Nat.reduceBEq, IntKind.signed, Nat.reduceEqDiff, Nat.reduceLeDiff, Nat.reduceLT, eq_self, Int.reduceEq, Int.reduceLT, Int.reduceLE, Int.reduceAdd, Int.reduceSub, VC.regC_nil, VC.regC_cons, VC.regCK_eq, VC.callQ, VC.tailQ, VC.goCall, VC.chStep]
        refine WPM_range Fa.mix hit (Below.refl _ _) rfl rfl Fa.callB106 (by rintro i vals W rfl; rfl) (by kernel_rfl) (by kernel_rfl) (by rintro j rfl; omega) (by rintro (h | h) <;> omega)
          (fun i W => OwnV W w.heap.size 4 (.slice (some ⟨w.heap.size, 0, none⟩) n n) ((onL n (midF cl p r k ((ups p b0).take i))).map Value.bool) ∧ Agree (fun j => j = w.heap.size ∨ j = w4.heap.size + 1) w5 W)
          (fun _ _ _ => False) ?_ (fun _ _ _ _ h _ => h) ⟨by rw [List.take_zero, midF_nil]; exact ho5, Agree.refl _ _⟩ ?_ ?_ (fun _ _ _ h _ => h.elim)
        · rintro i A B ⟨x1, x2⟩ hAB
          refine ⟨x1.agreeAt hAB (by omega), x2.trans' hAB ?_⟩
          rintro j hj (h | h)
          · omega
          · exact .inr h
        · rintro l i vals W hi ⟨x1, x2⟩ rfl hz hsz
          obtain ⟨g1, g2, _⟩ := upAt_step hu hok.1 b0 i hb0n hi
          simp -dsimp only [VC.vcM, VC.fixM, VC.thenM, VC.blkM, VC.retM, VC.rndF, VC.asgF, VC.loopKM, Fa.F74, VC.Now, VC.vc, VC.lib, VC.regQ, VC.loopK, VC.reg, VC.opP, VC.pv, VC.thenF, VC.blkF, VC.retF, VC.resV, VC.oneV, VC.evo, VC.bin, VC.binI, VC.cmpI, VC.arithI, VC.ldv, VC.slv, VC.pickP, VC.holds, VC.chainOf, VC.look, VC.junk, VC.put, VC.eff, VC.callee, VC.pureB, VC.rdK, VC.rdKs, VC.okKs, VC.eqKs, VC.fillL, VC.putL, VC.stW, VC.stOK, VC.mixF, VC.setAll, Nat.reduceAdd, Nat.reduceSub, Nat.reduceMul, if_true, if_false, ↓reduceIte, forall_const, implies_true, reduceCtorEq, ne_eq, Nat.reduceBNe, Nat.reduceBEq, IntKind.signed, Nat.reduceEqDiff, Nat.reduceLeDiff, Nat.reduceLT, eq_self, Int.reduceEq, Int.reduceLT, Int.reduceLE, Int.reduceAdd, Int.reduceSub, VC.regC_nil, VC.regC_cons, VC.regCK_eq, VC.callQ, VC.tailQ, VC.goCall, VC.chStep]
          refine ⟨Agree.refl _ _, fun W3 hA3 => ?_⟩
          have x3 := x1.agreeAt hA3 (by omega)
          have hs6 := x2.size
          have hs7 := hA3.size
          have y1 : W3.cell? ⟨w1.heap.size, 0, none⟩ = some (.slice (some ⟨w.heap.size, 0, none⟩) n n) := ((hA3.cell (by omega) (by omega)).trans (x2.cell (by omega) (by omega))).trans hbox5
          obtain ⟨y2, y3⟩ := x3.at (j := ((ups p b0).getD i 0).toNat) (by rw [List.length_map, onL_length]; omega)
          rw [List.getElem?_map, onL_get (by omega)] at y2
          rw [rdSA_of y1, rdSN_of y1, rdSC_of y1]
          simp -dsimp only [VC.vcM, VC.fixM, VC.thenM, VC.blkM, VC.retM, VC.rndF, VC.asgF, VC.loopKM, Fa.F74, y1, y2, y3, VC.Now, VC.vc, VC.lib, VC.regQ, VC.loopK, VC.reg, VC.opP, VC.pv, VC.thenF, VC.blkF, VC.retF, VC.resV, VC.oneV, VC.evo, VC.bin, VC.binI, VC.cmpI, VC.arithI, VC.ldv, VC.slv, VC.pickP, VC.holds, VC.chainOf, VC.look, VC.junk, VC.put, VC.eff, VC.callee, VC.pureB, VC.rdK, VC.rdKs, VC.okKs, VC.eqKs, VC.fillL, VC.putL, VC.stW, VC.stOK, VC.mixF, VC.setAll, Nat.reduceAdd, Nat.reduceSub, Nat.reduceMul, if_true, if_false, ↓reduceIte, forall_const, implies_true, reduceCtorEq, ne_eq, Nat.reduceBNe, Nat.reduceBEq, IntKind.signed, Nat.reduceEqDiff, Nat.reduceLeDiff, Nat.reduceLT, eq_self, Int.reduceEq, Int.reduceLT, Int.reduceLE, Int.reduceAdd, Int.reduceSub, VC.regC_nil, VC.regC_cons, VC.regCK_eq, VC.callQ, VC.tailQ, VC.goCall, VC.chStep]
          have hst := x3.stored ((ups p b0).getD i 0).toNat (.bool true)
          have etk : (ups p b0).take (i + 1) = (ups p b0).take i ++ [(ups p b0).getD i 0] := by
            rw [List.take_succ_eq_append_getElem hi]; simp [hi]
          rw [← List.map_set, midF_snoc g1, ← etk] at hst
          refine ⟨by omega, Agree.setCell W3 (a := ⟨w.heap.size, _, none⟩) _ (by simp only; omega), hst, (x2.trans' hA3 ?_).trans (Agree.setCell W3 (a := ⟨w.heap.size, _, none⟩) _ (.inl rfl))⟩
          intro j hj h; omega
        · rintro W ⟨x1, x2⟩ hD
          simp -dsimp only [VC.vcM, VC.fixM, VC.thenM, VC.blkM, VC.retM, VC.rndF, VC.asgF, VC.loopKM, Fa.F74, VC.Now, VC.vc, VC.lib, VC.regQ, VC.loopK, VC.reg, VC.opP, VC.pv, VC.thenF, VC.blkF, VC.retF, VC.resV, VC.oneV, VC.evo, VC.bin, VC.binI, VC.cmpI, VC.arithI, VC.ldv, VC.slv, VC.pickP, VC.holds, VC.chainOf, VC.look, VC.junk, VC.put, VC.eff, VC.callee, VC.pureB, VC.rdK, VC.rdKs, VC.okKs, VC.eqKs, VC.fillL, VC.putL, VC.stW, VC.stOK, VC.mixF, VC.setAll, Nat.reduceAdd, Nat.reduceSub, Nat.reduceMul, if_true, if_false, ↓reduceIte, forall_const, implies_true, reduceCtorEq, ne_eq, Nat.reduceBNe, Nat.reduceBEq, IntKind.signed, Nat.reduceEqDiff, Nat.reduceLeDiff, Nat.reduceLT, eq_self, Int.reduceEq, Int.reduceLT, Int.reduceLE, Int.reduceAdd, Int.reduceSub, VC.regC_nil, VC.regC_cons, VC.regCK_eq, VC.callQ, VC.tailQ, VC.goCall, VC.chStep]
          rw [List.take_length, midF_end hg1 (by intro x; rw [hb0, Int.toNat_natCast]; exact mem_ups p b0 x)] at x1
          refine ⟨fits_i64_nat (by omega), SAME.intro (by kernel_rfl), m - 1, by omega, k + 1, by omega, rfl, x1, hA5.trans' x2 ?_, ⟨w5.heap.size, rfl, by omega, hD, fun hm => ?_⟩, hM.keep fun D hm hD' => ?_⟩
          · rintro j hj (h | h)
            · exact h
            · omega
          · have := (hM.bound _ hm).2; omega
          · have hb := hM.bound _ hm
            rw [x2.block D (by omega) (by omega), hB5.block D (by omega), hB4.block D (by omega)]
            exact hD'
  · obtain rfl : k = n := by omega
    have hbr := (hA.cell (o := 0) (show w1.heap.size < w2.heap.size by omega) (by omega)).trans hbox
    simp -dsimp only [VC.vcM, VC.fixM, VC.thenM, VC.blkM, VC.retM, VC.rndF, VC.asgF, VC.loopKM, Fa.F74, rdSA_of hbr, rdSN_of hbr, rdSC_of hbr, hbr, VC.Now, VC.vc, VC.lib, VC.regQ, VC.loopK, VC.reg, VC.opP, VC.pv, VC.thenF, VC.blkF, VC.retF, VC.resV, VC.oneV, VC.evo, VC.bin, VC.binI, VC.cmpI, VC.arithI, VC.ldv, VC.slv, VC.pickP, VC.holds, VC.chainOf, VC.look, VC.junk, VC.put, VC.eff, VC.callee, VC.pureB, VC.rdK, VC.rdKs, VC.okKs, VC.eqKs, VC.fillL, VC.putL, VC.stW, VC.stOK, VC.mixF, VC.setAll, Nat.reduceAdd, Nat.reduceSub, Nat.reduceMul, if_true, if_false, ↓reduceIte, forall_const, implies_true, reduceCtorEq, ne_eq, Nat.reduceBNe, Nat.reduceBEq, IntKind.signed, Nat.reduceEqDiff, Nat.reduceLeDiff, Nat.reduceLT, eq_self, Int.reduceEq, Int.reduceLT, Int.reduceLE, Int.reduceAdd, Int.reduceSub, VC.regC_nil, VC.regC_cons, VC.regCK_eq, VC.callQ, VC.tailQ, VC.goCall, VC.chStep]
    refine hM.leave fun w' hw' => ⟨trivial, _, rfl, hor.agreeAt hw' (fun h => by have := (hM.bound _ h).1; omega), ?_⟩
    have hBwr : Below w.heap.size w wr := hA.to_below (hB1.trans (hB2.mono hB1.size)) (by omega) (by rintro j rfl; exact Nat.le_refl _)
    exact hw'.to_below hBwr (by omega) (fun j hj => by have := (hM.bound _ hj).1; omega)
end Go.Proofs.Ytnggjekppdlaoaa
