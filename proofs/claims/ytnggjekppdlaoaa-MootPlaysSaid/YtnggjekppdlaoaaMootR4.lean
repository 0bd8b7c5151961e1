/- An assembly as the document has it: a vote. -/
import Derived.Test.YtnggjekppdlaoaaMootR3
import Derived.Test.YtnggjekppdlaoaaRefBits
namespace Go.Proofs.Ytnggjekppdlaoaa
open Go Go.RowKit Go.VC
set_option linter.unusedSimpArgs false
set_option linter.unusedVariables false
section
variable {B n f liars t : Nat} {a : RA} {s : MS} {V T : List Vo} {w : World}

set_option maxRecDepth 8000 in
set_option maxHeartbeats 8000000 in
theorem voteR_any (h : Hp B (RObs n f liars a s V T) w) (hR : RRel n liars s V T) (hok : MOK n t s) (hn : n ≤ 32) (hf : f ≤ n) (hV : V.length ≤ 1000) (hT : T.length ≤ 1000) (hl : liars < 4294967296) {c : Say} (hc : SayOK c) {i : Nat} (hi : i < n) (hw : c.who = i) :
    Calls Try.prog 76 #[.pointer (some ⟨a.mb, 0, none⟩), sayV c] w (RPost B n f liars a s V T w (mvote n (n - f) liars i c s)) := by
  obtain ⟨f1, f2, f3, f4⟩ := hc
  have hB0 : Below w.heap.size w (w.alloc (.cells (sayL c).toArray 124)) := (Below.refl _ _).alloc (Nat.le_refl _) _
  have hs0 := say_box c w 124
  refine calls_vc (rs := [.tmp 4]) Fa.mix Try.func76 rfl Try.ntmps76 rfl (by kernel_rfl) (Nat.le_of_ble_eq_true rfl) ?_
  (repeat rw [vc_seq]); refine vc_plain _ fun Q hQ => ?_; simp -dsimp only [Fa.F76, VC.Now, VC.vc_skip, VC.vc_ret, VC.vc_exit, VC.vc_block, VC.vc_cond, VC.vc_region, VC.lib, VC.regQ, VC.loopK, VC.reg, VC.opP, VC.pv, VC.thenF, VC.blkF, VC.retF, VC.resV, VC.oneV, VC.evo, VC.bin, VC.binI, VC.cmpI, VC.arithI, VC.ldv, VC.slv, VC.pickP, VC.holds, VC.chainOf, VC.look, VC.junk, VC.put, VC.eff, VC.callee, VC.pureB, VC.rdK, VC.rdKs, VC.okKs, VC.eqKs, VC.fillL, VC.putL, VC.stW, VC.stOK, VC.mixF, VC.setAll, Nat.reduceAdd, Nat.reduceSub, Nat.reduceMul, if_true, if_false, ↓reduceIte, forall_const, implies_true, reduceCtorEq, ne_eq, Nat.reduceBNe, Nat.reduceBEq, IntKind.signed, Nat.reduceEqDiff, Nat.reduceLeDiff, Nat.reduceLT, eq_self, Int.reduceEq, Int.reduceLT, Int.reduceLE, Int.reduceAdd, Int.reduceSub, VC.regC_nil, VC.regC_cons, VC.regCK_eq, VC.callQ, VC.tailQ, VC.goCall, VC.chStep]
  generalize hsb : w.heap.size = sb at hs0 ⊢
  change Q _ _ (w.alloc (.cells (sayL c).toArray 124))
  generalize w.alloc (.cells (sayL c).toArray 124) = w1 at hs0 hB0 ⊢
  subst hQ
  have h1 := h.below hB0
  obtain ⟨g, cb, e, hg, hblk⟩ := ro_blk h1 hok.nb0
  obtain ⟨Av, cv, ev, hvo⟩ := ro_vo h1
  have b3 := (ro_box h1).at (i := 3) rfl
  have b4 := (ro_box h1).at (i := 4) rfl
  rw [e] at b3
  rw [ev] at b4
  have hm := (ro_box h1).1
  have z1 := hs0.at (i := 1) rfl
  have z2 := hs0.at (i := 2) rfl
  rw [hw] at z1
  have hnb := hok.nb1
  by_cases q0 : ¬ isBlk s c.block ∨ c.block = 0
  · have e0 : ((c.block < 1) ∨ ((s.nb : Int) ≤ c.block)) = True := eq_true (by unfold isBlk at q0; omega)
    simp -dsimp only [Fa.F76, rdSA_of b3, rdSN_of b3, rdSC_of b3, b3, rdI_of z2, z2, e0, VC.Now, VC.vc, VC.lib, VC.regQ, VC.loopK, VC.reg, VC.opP, VC.pv, VC.thenF, VC.blkF, VC.retF, VC.resV, VC.oneV, VC.evo, VC.bin, VC.binI, VC.cmpI, VC.arithI, VC.ldv, VC.slv, VC.pickP, VC.holds, VC.chainOf, VC.look, VC.junk, VC.put, VC.eff, VC.callee, VC.pureB, VC.rdK, VC.rdKs, VC.okKs, VC.eqKs, VC.fillL, VC.putL, VC.stW, VC.stOK, VC.mixF, VC.setAll, Nat.reduceAdd, Nat.reduceSub, Nat.reduceMul, if_true, if_false, ↓reduceIte, forall_const, implies_true, reduceCtorEq, ne_eq, Nat.reduceBNe, Nat.reduceBEq, IntKind.signed, Nat.reduceEqDiff, Nat.reduceLeDiff, Nat.reduceLT, eq_self, Int.reduceEq, Int.reduceLT, Int.reduceLE, Int.reduceAdd, Int.reduceSub, VC.regC_nil, VC.regC_cons, VC.regCK_eq, VC.callQ, VC.tailQ, VC.goCall, VC.chStep]
    exact fun m => RPost.same h hR (hB0.trans ((below_drewN (Below.refl _ w1) m).mono hB0.size)) (by unfold mvote; rw [if_pos q0])
  · have e0 : ((c.block < 1) ∨ ((s.nb : Int) ≤ c.block)) = False := eq_false (by unfold isBlk at q0; omega)
    obtain ⟨b0, hb0, hbt, hb1⟩ : ∃ b0 : Nat, c.block = b0 ∧ b0 < s.nb ∧ 0 < b0 := ⟨c.block.toNat, by unfold isBlk at q0; omega, by unfold isBlk at q0; omega, by unfold isBlk at q0; omega⟩
    have hbN : c.block.toNat = b0 := by omega
    rw [hb0] at z2 e0
    simp -dsimp only [Fa.F76, rdSA_of b3, rdSN_of b3, rdSC_of b3, b3, rdSA_of b4, rdSN_of b4, rdSC_of b4, b4, rdI_of z2, z2, e0, VC.Now, VC.vc, VC.lib, VC.regQ, VC.loopK, VC.reg, VC.opP, VC.pv, VC.thenF, VC.blkF, VC.retF, VC.resV, VC.oneV, VC.evo, VC.bin, VC.binI, VC.cmpI, VC.arithI, VC.ldv, VC.slv, VC.pickP, VC.holds, VC.chainOf, VC.look, VC.junk, VC.put, VC.eff, VC.callee, VC.pureB, VC.rdK, VC.rdKs, VC.okKs, VC.eqKs, VC.fillL, VC.putL, VC.stW, VC.stOK, VC.mixF, VC.setAll, Nat.reduceAdd, Nat.reduceSub, Nat.reduceMul, if_true, if_false, ↓reduceIte, forall_const, implies_true, reduceCtorEq, ne_eq, Nat.reduceBNe, Nat.reduceBEq, IntKind.signed, Nat.reduceEqDiff, Nat.reduceLeDiff, Nat.reduceLT, eq_self, Int.reduceEq, Int.reduceLT, Int.reduceLE, Int.reduceAdd, Int.reduceSub, VC.regC_nil, VC.regC_cons, VC.regCK_eq, VC.callQ, VC.tailQ, VC.goCall, VC.chStep]
    intro u0 m0
    refine loop_slots Fa.mix [27] [4, 6, 28, 29, 30, 31, 32, 33, 34, 35, 36, 37, 38, 39, 40, 41, 42, 43] (fun m vs wr => ∃ k : Nat, k + m = V.length ∧ vs = [.int .i64 k] ∧ Below w1.heap.size w1 wr ∧ ∀ j x, j < k → V[j]? = some x → ¬ (x.1 = i ∧ x.2.1 = b0)) V.length (by kernel_rfl) rfl
      ⟨0, by omega, rfl, below_drewN (Below.refl _ _) _, fun j x hj => absurd hj (by omega)⟩ ?_
    rintro m vs u wr ⟨k, hkm, rfl, hBr, hno⟩
    have hs4 := hs0.below hBr
    have hB4 := hB0.trans (hBr.mono hB0.size)
    have h4 := h1.below hBr
    clear z1 z2
    have z1 := hs4.at (i := 1) rfl
    have z2 := hs4.at (i := 2) rfl
    rw [hw] at z1
    rw [hb0] at z2
    have hl4 := hs4.1
    by_cases hk : k < V.length
    · obtain ⟨bv, rfl, hbv, hcv⟩ := (hvo.below hBr) (by omega)
      obtain ⟨x, hx⟩ : ∃ x, V[k]? = some x := ⟨_, List.getElem?_eq_getElem hk⟩
      obtain ⟨c0, c1, c2⟩ := hcv k x hx
      have e5 : ((k : Int) < V.length) = True := eq_true (by omega)
      obtain ⟨xa, xb, xc⟩ := x
      simp -dsimp only [Fa.F76, e5, rdI_of c0, c0, rdI_of c1, c1, rdI_of c2, c2, rdI_of z1, z1, rdI_of z2, z2, hl4, VC.Now, VC.vc, VC.lib, VC.regQ, VC.loopK, VC.reg, VC.opP, VC.pv, VC.thenF, VC.blkF, VC.retF, VC.resV, VC.oneV, VC.evo, VC.bin, VC.binI, VC.cmpI, VC.arithI, VC.ldv, VC.slv, VC.pickP, VC.holds, VC.chainOf, VC.look, VC.junk, VC.put, VC.eff, VC.callee, VC.pureB, VC.rdK, VC.rdKs, VC.okKs, VC.eqKs, VC.fillL, VC.putL, VC.stW, VC.stOK, VC.mixF, VC.setAll, Nat.reduceAdd, Nat.reduceSub, Nat.reduceMul, if_true, if_false, ↓reduceIte, forall_const, implies_true, reduceCtorEq, ne_eq, Nat.reduceBNe, Nat.reduceBEq, IntKind.signed, Nat.reduceEqDiff, Nat.reduceLeDiff, Nat.reduceLT, eq_self, Int.reduceEq, Int.reduceLT, Int.reduceLE, Int.reduceAdd, Int.reduceSub, VC.regC_nil, VC.regC_cons, VC.regCK_eq, VC.callQ, VC.tailQ, VC.goCall, VC.chStep]
      have hBa : Below w1.heap.size w1 (wr.alloc (.cells #[.int .i64 xa, .int .i64 xb, .int .i64 xc] 218)) := below_box hBr _
      refine ⟨by omega, fun u2 => ⟨fun hd => ?_, fun hd => ?_⟩⟩
      · obtain ⟨rfl, rfl⟩ := hd
        have hmem := List.mem_of_getElem? hx
        have h0 : xc = 0 := (hR.v1 _ hmem).2.2
        subst h0
        exact RPost.same h hR (hB0.trans (hBa.mono hB0.size)) (by unfold mvote; rw [if_neg q0, hbN, if_pos (Or.inl ((hR.v2 i b0).2 hmem))])
      · refine ⟨fits_i64_nat (by omega), SAME.intro (by kernel_rfl), m - 1, by omega, k + 1, by omega, rfl, hBa, fun j y hj hy => ?_⟩
        by_cases hjk : j = k
        · subst hjk; rw [hx] at hy; cases hy; exact hd
        · exact hno j y (by omega) hy
    · obtain rfl : k = V.length := by omega
      have e5 : ((V.length : Int) < V.length) = False := eq_false (by omega)
      clear b3 hblk hg
      obtain ⟨g4, cb4, e4, hg, hblk⟩ := ro_blk h4 hok.nb0
      have b3 := (ro_box h4).at (i := 3) rfl
      have b2 := (ro_box h4).at (i := 2) rfl
      rw [e4] at b3
      have r1 := (hblk b0 hbt).2
      have r0 := (hblk b0 hbt).1
      obtain ⟨p1, p2⟩ := hok.par hb1 hbt
      have rp := (hblk (s.p b0).toNat (by omega)).2
      simp -dsimp only [Fa.F76, e5, rdSA_of b3, rdSN_of b3, rdSC_of b3, b3, rdI_of z1, z1, rdI_of z2, z2, rdI_of r1, r1, rdI_of r0, r0, rdI_of rp, rp, rdI_of b2, b2, VC.Now, VC.vc, VC.lib, VC.regQ, VC.loopK, VC.reg, VC.opP, VC.pv, VC.thenF, VC.blkF, VC.retF, VC.resV, VC.oneV, VC.evo, VC.bin, VC.binI, VC.cmpI, VC.arithI, VC.ldv, VC.slv, VC.pickP, VC.holds, VC.chainOf, VC.look, VC.junk, VC.put, VC.eff, VC.callee, VC.pureB, VC.rdK, VC.rdKs, VC.okKs, VC.eqKs, VC.fillL, VC.putL, VC.stW, VC.stOK, VC.mixF, VC.setAll, Nat.reduceAdd, Nat.reduceSub, Nat.reduceMul, if_true, if_false, ↓reduceIte, forall_const, implies_true, reduceCtorEq, ne_eq, Nat.reduceBNe, Nat.reduceBEq, IntKind.signed, Nat.reduceEqDiff, Nat.reduceLeDiff, Nat.reduceLT, eq_self, Int.reduceEq, Int.reduceLT, Int.reduceLE, Int.reduceAdd, Int.reduceSub, VC.regC_nil, VC.regC_cons, VC.regCK_eq, VC.callQ, VC.tailQ, VC.goCall, VC.chStep]
      have hbit : (s.vm b0).testBit i = false := by
        cases hb : (s.vm b0).testBit i with
        | false => rfl
        | true =>
          have hmem := (hR.v2 i b0).1 hb
          obtain ⟨j, hj, he⟩ := List.getElem_of_mem hmem
          exact absurd ⟨rfl, rfl⟩ (hno j _ hj (List.getElem?_eq_some_iff.2 ⟨hj, he⟩))
      refine ⟨⟨by omega, by omega⟩, fun m1 => ⟨⟨by omega, by omega⟩, ⟨by omega, by omega⟩, fun m2 => ?_⟩⟩
      have hm4 := (ro_box h4).1
      have hs5 := hs4.below (below_drewN (Below.refl _ wr) (m1 + m2))
      have h5 := h4.drewN (m1 + m2)
      have hB5 := hB4.trans ((below_drewN (Below.refl _ wr) (m1 + m2)).mono hB4.size)
      refine WP_calls Fa.mix (by kernel_rfl) (by kernel_rfl) rfl ?_
      simp -dsimp only [Fa.F76, rdI_of z1, z1, rdI_of z2, z2, rdI_of b2, b2, VC.Now, VC.vc, VC.lib, VC.regQ, VC.loopK, VC.reg, VC.opP, VC.pv, VC.thenF, VC.blkF, VC.retF, VC.resV, VC.oneV, VC.evo, VC.bin, VC.binI, VC.cmpI, VC.arithI, VC.ldv, VC.slv, VC.pickP, VC.holds, VC.chainOf, VC.look, VC.junk, VC.put, VC.eff, VC.callee, VC.pureB, VC.rdK, VC.rdKs, VC.okKs, VC.eqKs, VC.fillL, VC.putL, VC.stW, VC.stOK, VC.mixF, VC.setAll, Nat.reduceAdd, Nat.reduceSub, Nat.reduceMul, if_true, if_false, ↓reduceIte, forall_const, implies_true, reduceCtorEq, ne_eq, Nat.reduceBNe, Nat.reduceBEq, IntKind.signed, Nat.reduceEqDiff, Nat.reduceLeDiff, Nat.reduceLT, eq_self, Int.reduceEq, Int.reduceLT, Int.reduceLE, Int.reduceAdd, Int.reduceSub, VC.regC_nil, VC.regC_cons, VC.regCK_eq, VC.callQ, VC.tailQ, VC.goCall, VC.chStep]
      refine CALLQ_of (v := .bool (liars.testBit i)) (fun _ wq _ => (bit_any liars i wq hl (by omega)).mono fun e w' he => ⟨he.1, by rw [he.2]; exact Below.refl _ _⟩) ?_
      cases hli : liars.testBit i
      · simp -dsimp only [Fa.F76, rdI_of z1, z1, rdI_of z2, z2, VC.Now, VC.vc, VC.lib, VC.regQ, VC.loopK, VC.reg, VC.opP, VC.pv, VC.thenF, VC.blkF, VC.retF, VC.resV, VC.oneV, VC.evo, VC.bin, VC.binI, VC.cmpI, VC.arithI, VC.ldv, VC.slv, VC.pickP, VC.holds, VC.chainOf, VC.look, VC.junk, VC.put, VC.eff, VC.callee, VC.pureB, VC.rdK, VC.rdKs, VC.okKs, VC.eqKs, VC.fillL, VC.putL, VC.stW, VC.stOK, VC.mixF, VC.setAll, Nat.reduceAdd, Nat.reduceSub, Nat.reduceMul, if_true, if_false, ↓reduceIte, forall_const, implies_true, reduceCtorEq, ne_eq, Nat.reduceBNe, Nat.reduceBEq, IntKind.signed, Nat.reduceEqDiff, Nat.reduceLeDiff, Nat.reduceLT, eq_self, Int.reduceEq, Int.reduceLT, Int.reduceLE, Int.reduceAdd, Int.reduceSub, VC.regC_nil, VC.regC_cons, VC.regCK_eq, VC.callQ, VC.tailQ, VC.goCall, VC.chStep]
        intro wA hBA
        have h6 := h5.below hBA
        have hs6 := hs5.below hBA
        have hB6 := hB5.trans (hBA.mono hB5.size)
        obtain ⟨Al, cl, el, hvl⟩ := ro_vl h6
        have d0 := (ro_box h6).at (i := 0) rfl
        have d1 := (ro_box h6).at (i := 1) rfl
        have d5 := (ro_box h6).at (i := 5) rfl
        have d6 := (ro_box h6).at (i := 6) rfl
        have d7 := (ro_box h6).at (i := 7) rfl
        rw [el] at d5
        have y1 := hs6.at (i := 1) rfl
        have y2 := hs6.at (i := 2) rfl
        rw [hw] at y1
        rw [hb0] at y2
        obtain ⟨m0', m1', fr0, fr1⟩ := ro_mem h6 hi
        have rr := hok.rr b0 hbt
        refine WP_calls Fa.mix (by kernel_rfl) (by kernel_rfl) rfl ?_
        simp -dsimp only [Fa.F76, rdI_of d0, d0, rdI_of d1, d1, rdSA_of d5, rdSN_of d5, rdSC_of d5, d5, rdSA_of d6, rdSN_of d6, rdSC_of d6, d6, rdI_of y1, y1, rdI_of m0', m0', VC.Now, VC.vc, VC.lib, VC.regQ, VC.loopK, VC.reg, VC.opP, VC.pv, VC.thenF, VC.blkF, VC.retF, VC.resV, VC.oneV, VC.evo, VC.bin, VC.binI, VC.cmpI, VC.arithI, VC.ldv, VC.slv, VC.pickP, VC.holds, VC.chainOf, VC.look, VC.junk, VC.put, VC.eff, VC.callee, VC.pureB, VC.rdK, VC.rdKs, VC.okKs, VC.eqKs, VC.fillL, VC.putL, VC.stW, VC.stOK, VC.mixF, VC.setAll, Nat.reduceAdd, Nat.reduceSub, Nat.reduceMul, if_true, if_false, ↓reduceIte, forall_const, implies_true, reduceCtorEq, ne_eq, Nat.reduceBNe, Nat.reduceBEq, IntKind.signed, Nat.reduceEqDiff, Nat.reduceLeDiff, Nat.reduceLT, eq_self, Int.reduceEq, Int.reduceLT, Int.reduceLE, Int.reduceAdd, Int.reduceSub, VC.regC_nil, VC.regC_cons, VC.regCK_eq, VC.callQ, VC.tailQ, VC.goCall, VC.chStep]
        refine ⟨⟨by omega, by omega⟩, fun _ => fits_i64 (by omega) (by omega), fun _ => fits_i64 (by omega) (by omega), ?_⟩
        refine CALLQ_of (v := .int .i64 (seenF (s.r b0 - 1) (s.r (s.p b0).toNat) T).length) (fun _ wq hq => different_any Al cl T _ _ wq (hvl.below hq) hT) ?_
        simp -dsimp only [Fa.F76, rdI_of d0, d0, rdI_of d1, d1, rdSA_of d5, rdSN_of d5, rdSC_of d5, d5, rdSA_of d6, rdSN_of d6, rdSC_of d6, d6, rdI_of y1, y1, rdI_of m0', m0', VC.Now, VC.vc, VC.lib, VC.regQ, VC.loopK, VC.reg, VC.opP, VC.pv, VC.thenF, VC.blkF, VC.retF, VC.resV, VC.oneV, VC.evo, VC.bin, VC.binI, VC.cmpI, VC.arithI, VC.ldv, VC.slv, VC.pickP, VC.holds, VC.chainOf, VC.look, VC.junk, VC.put, VC.eff, VC.callee, VC.pureB, VC.rdK, VC.rdKs, VC.okKs, VC.eqKs, VC.fillL, VC.putL, VC.stW, VC.stOK, VC.mixF, VC.setAll, Nat.reduceAdd, Nat.reduceSub, Nat.reduceMul, if_true, if_false, ↓reduceIte, forall_const, implies_true, reduceCtorEq, ne_eq, Nat.reduceBNe, Nat.reduceBEq, IntKind.signed, Nat.reduceEqDiff, Nat.reduceLeDiff, Nat.reduceLT, eq_self, Int.reduceEq, Int.reduceLT, Int.reduceLE, Int.reduceAdd, Int.reduceSub, VC.regC_nil, VC.regC_cons, VC.regCK_eq, VC.callQ, VC.tailQ, VC.goCall, VC.chStep]
        refine ⟨fun _ => fits_i64 (by omega) (by omega), fun u3 wB hBB => ?_⟩
        have hps := hR.pass (s.r b0 - 1) (s.r (s.p b0).toNat)
        have hagB : agreesB n (n - f) s i b0 = true ↔ s.vd i < s.r b0 ∧ (s.r (s.p b0).toNat = s.r b0 - 1 ∨ ((n : Int) - (f : Int)) ≤ ((seenF (s.r b0 - 1) (s.r (s.p b0).toNat) T).length : Int)) := by
          unfold agreesB passB
          rw [← hps]
          simp only [Bool.and_eq_true, Bool.or_eq_true, decide_eq_true_eq]
          refine and_congr Iff.rfl (or_congr Iff.rfl ⟨fun h => by omega, fun h => by omega⟩)
        have hB7 := hB6.trans (hBB.mono hB6.size)
        have h7 := h6.below hBB
        have hs7 := hs6.below hBB
        refine ⟨fun hd => RPost.same h hR hB7 ?_, fun hd => ?_⟩
        · have : agreesB n (n - f) s i b0 = false := by
            cases ha : agreesB n (n - f) s i b0 with
            | false => rfl
            | true =>
              obtain ⟨g1, g2⟩ := hagB.1 ha
              rcases hd with hd | ⟨hd1, hd2⟩
              · omega
              · rcases g2 with g2 | g2
                · exact absurd g2 hd1
                · omega
          unfold mvote; rw [if_neg q0, hbN, if_pos (Or.inr ⟨hli, this⟩)]
        have hag : agreesB n (n - f) s i b0 = true := hagB.2 (by
          rw [not_or] at hd
          refine ⟨by omega, ?_⟩
          by_cases hq : s.r (s.p b0).toNat = s.r b0 - 1
          · exact Or.inl hq
          · exact Or.inr (Classical.byContradiction fun hc => hd.2 ⟨hq, by omega⟩))
        have hmv : mvote n (n - f) liars i c s = (0, { s with vm := upd s.vm b0 (s.vm b0 ||| 2 ^ i), vd := upd s.vd i (s.r b0), kn := upd s.kn i (maxI (s.kn i) (s.r (s.p b0).toNat)) }) := by
          unfold mvote; rw [if_neg q0, hbN, if_neg (by simp [hbit, hag]), if_neg (by simp [hli])]
        have c6 := (ro_box h7).at (i := 6) rfl
        have y1 := hs7.at (i := 1) rfl
        rw [hw] at y1
        obtain ⟨_, _, fr0, _⟩ := ro_mem h7 hi
        have v0 := (ro_mem h7 hi).1
        have hm7 := (ro_box h7).1
        have hgv : sb ≠ a.gv := fun e => by have := (h.lt 4 rfl (g := a.gv) rfl).2; omega
        have hgk : sb ≠ a.gk := fun e => by have := (h.lt 5 rfl (g := a.gk) rfl).2; omega
        refine WP_held 8 (fun _ => False) (.take 0 (.take 1 (.take 2 (.take 3 (.take 4 (.take 5 (.take 6 (.take 7 (.one 8 .done))))))))) Fa.mix (by kernel_rfl) rfl ?_
        simp -dsimp only [VC.heldF_done, VC.heldF_last, VC.planF_done, VC.planF_take, VC.planF_one, VC.planF_two, VC.planK_eq, VC.heldF_take, VC.heldF_one, VC.heldF_two, VC.heldF_twoL, VC.heldK_eq, VC.okRd, Fa.F76, rdSA_of c6, rdSN_of c6, rdSC_of c6, c6, rdI_of y1, y1, v0, fr0, VC.Now, VC.vc, VC.lib, VC.regQ, VC.loopK, VC.reg, VC.opP, VC.pv, VC.thenF, VC.blkF, VC.retF, VC.resV, VC.oneV, VC.evo, VC.bin, VC.binI, VC.cmpI, VC.arithI, VC.ldv, VC.slv, VC.pickP, VC.holds, VC.chainOf, VC.look, VC.junk, VC.put, VC.eff, VC.callee, VC.pureB, VC.rdK, VC.rdKs, VC.okKs, VC.eqKs, VC.fillL, VC.putL, VC.stW, VC.stOK, VC.mixF, VC.setAll, Nat.reduceAdd, Nat.reduceSub, Nat.reduceMul, if_true, if_false, ↓reduceIte, forall_const, implies_true, reduceCtorEq, ne_eq, Nat.reduceBNe, Nat.reduceBEq, IntKind.signed, Nat.reduceEqDiff, Nat.reduceLeDiff, Nat.reduceLT, eq_self, Int.reduceEq, Int.reduceLT, Int.reduceLE, Int.reduceAdd, Int.reduceSub, VC.regC_nil, VC.regC_cons, VC.regCK_eq, VC.callQ, VC.tailQ, VC.goCall, VC.chStep]
        refine ⟨hm7, hs7.1, ⟨by omega, by omega⟩, ?_⟩
        have st8 := ((h.below_st hB7).drewN 1).trans (ro_setV (h7.drewN 1) hi (s.r b0))
        have hs8 : Box ((wB.drewN 1).setCell ⟨a.gv, i, none⟩ (.int .i64 (s.r b0))) sb (sayL c) := (hs7.below (below_drewN (Below.refl _ _) 1)).far (a := ⟨a.gv, i, none⟩) (Ne.symm hgv) _
        generalize (wB.drewN 1).setCell ⟨a.gv, i, none⟩ (.int .i64 (s.r b0)) = wC at st8 hs8 ⊢
        clear c6 y1 v0 fr0 hm7
        have c7 := (ro_box st8.hp).at (i := 7) rfl
        have y1 := hs8.at (i := 1) rfl
        rw [hw] at y1
        obtain ⟨_, v1, _, fr1⟩ := ro_mem st8.hp hi
        have hm8 := (ro_box st8.hp).1
        by_cases q6 : s.kn i < s.r (s.p b0).toNat
        · have e6 := eq_true q6
          rw [show maxI (s.kn i) (s.r (s.p b0).toNat) = s.r (s.p b0).toNat from if_pos q6] at hmv
          simp -dsimp only [Fa.F76, e6, rdSA_of c7, rdSN_of c7, rdSC_of c7, c7, rdI_of y1, y1, rdI_of v1, v1, VC.Now, VC.vc, VC.lib, VC.regQ, VC.loopK, VC.reg, VC.opP, VC.pv, VC.thenF, VC.blkF, VC.retF, VC.resV, VC.oneV, VC.evo, VC.bin, VC.binI, VC.cmpI, VC.arithI, VC.ldv, VC.slv, VC.pickP, VC.holds, VC.chainOf, VC.look, VC.junk, VC.put, VC.eff, VC.callee, VC.pureB, VC.rdK, VC.rdKs, VC.okKs, VC.eqKs, VC.fillL, VC.putL, VC.stW, VC.stOK, VC.mixF, VC.setAll, Nat.reduceAdd, Nat.reduceSub, Nat.reduceMul, if_true, if_false, ↓reduceIte, forall_const, implies_true, reduceCtorEq, ne_eq, Nat.reduceBNe, Nat.reduceBEq, IntKind.signed, Nat.reduceEqDiff, Nat.reduceLeDiff, Nat.reduceLT, eq_self, Int.reduceEq, Int.reduceLT, Int.reduceLE, Int.reduceAdd, Int.reduceSub, VC.regC_nil, VC.regC_cons, VC.regCK_eq, VC.callQ, VC.tailQ, VC.goCall, VC.chStep]
          refine ⟨⟨by omega, by omega⟩, fun m3 => ?_⟩
          refine WP_held 8 (fun _ => False) (.take 0 (.take 1 (.take 2 (.take 3 (.take 4 (.take 5 (.take 6 (.take 7 (.one 8 .done))))))))) Fa.mix (by kernel_rfl) rfl ?_
          simp -dsimp only [VC.heldF_done, VC.heldF_last, VC.planF_done, VC.planF_take, VC.planF_one, VC.planF_two, VC.planK_eq, VC.heldF_take, VC.heldF_one, VC.heldF_two, VC.heldF_twoL, VC.heldK_eq, VC.okRd, Fa.F76, rdSA_of c7, rdSN_of c7, rdSC_of c7, c7, rdI_of y1, y1, v1, fr1, VC.Now, VC.vc, VC.lib, VC.regQ, VC.loopK, VC.reg, VC.opP, VC.pv, VC.thenF, VC.blkF, VC.retF, VC.resV, VC.oneV, VC.evo, VC.bin, VC.binI, VC.cmpI, VC.arithI, VC.ldv, VC.slv, VC.pickP, VC.holds, VC.chainOf, VC.look, VC.junk, VC.put, VC.eff, VC.callee, VC.pureB, VC.rdK, VC.rdKs, VC.okKs, VC.eqKs, VC.fillL, VC.putL, VC.stW, VC.stOK, VC.mixF, VC.setAll, Nat.reduceAdd, Nat.reduceSub, Nat.reduceMul, if_true, if_false, ↓reduceIte, forall_const, implies_true, reduceCtorEq, ne_eq, Nat.reduceBNe, Nat.reduceBEq, IntKind.signed, Nat.reduceEqDiff, Nat.reduceLeDiff, Nat.reduceLT, eq_self, Int.reduceEq, Int.reduceLT, Int.reduceLE, Int.reduceAdd, Int.reduceSub, VC.regC_nil, VC.regC_cons, VC.regCK_eq, VC.callQ, VC.tailQ, VC.goCall, VC.chStep]
          refine ⟨hm8, hs8.1, ⟨by omega, by omega⟩, ?_⟩
          have st9 := (st8.drewN (m3 + 1)).trans (ro_setK (st8.hp.drewN (m3 + 1)) hi (s.r (s.p b0).toNat))
          have hs9 : Box ((wC.drewN (m3 + 1)).setCell ⟨a.gk, i, none⟩ (.int .i64 (s.r (s.p b0).toNat))) sb (sayL c) := (hs8.below (below_drewN (Below.refl _ _) (m3 + 1))).far (a := ⟨a.gk, i, none⟩) (Ne.symm hgk) _
          generalize (wC.drewN (m3 + 1)).setCell ⟨a.gk, i, none⟩ (.int .i64 (s.r (s.p b0).toNat)) = wD at st9 hs9 ⊢
          obtain ⟨Ao, co, eo, _⟩ := ro_vo st9.hp
          have q4 := (ro_box st9.hp).at (i := 4) rfl
          rw [eo] at q4
          have x1 := hs9.at (i := 1) rfl
          have x2 := hs9.at (i := 2) rfl
          rw [hw] at x1
          rw [hb0] at x2
          have hne1 : ¬ a.vo.ownBlock = some a.mb := fun hf => st9.hp.ne 0 2 (by decide) rfl rfl a.mb rfl hf
          have hne2 : ¬ a.vo.ownBlock = some sb := fun hf => by have := (h.lt 2 rfl hf).2; omega
          have agS : Agree (fun j => a.vo.ownBlock = some j) wD (wD.drewN 1) := Agree.of_below (below_drewN (Below.refl _ wD) 1)
          refine WP_held 14 (fun j => a.vo.ownBlock = some j) (.take 0 (.take 1 (.take 2 (.take 3 (.take 4 (.take 5 (.take 6 (.take 7 (.take 8 (.take 9 (.one 10 (.one 11 (.one 12 (.take 13 (.one 14 .done))))))))))))))) Fa.mix (by kernel_rfl) rfl ?_
          simp -dsimp only [VC.heldF_done, VC.heldF_last, VC.planF_done, VC.planF_take, VC.planF_one, VC.planF_two, VC.planK_eq, VC.heldF_take, VC.heldF_one, VC.heldF_two, VC.heldF_twoL, VC.heldK_eq, VC.okRd, Fa.F76, rdSA_of q4, rdSN_of q4, rdSC_of q4, q4, rdI_of x1, x1, rdI_of x2, x2, VC.Now, VC.vc, VC.lib, VC.regQ, VC.loopK, VC.reg, VC.opP, VC.pv, VC.thenF, VC.blkF, VC.retF, VC.resV, VC.oneV, VC.evo, VC.bin, VC.binI, VC.cmpI, VC.arithI, VC.ldv, VC.slv, VC.pickP, VC.holds, VC.chainOf, VC.look, VC.junk, VC.put, VC.eff, VC.callee, VC.pureB, VC.rdK, VC.rdKs, VC.okKs, VC.eqKs, VC.fillL, VC.putL, VC.stW, VC.stOK, VC.mixF, VC.setAll, Nat.reduceAdd, Nat.reduceSub, Nat.reduceMul, if_true, if_false, ↓reduceIte, forall_const, implies_true, reduceCtorEq, ne_eq, Nat.reduceBNe, Nat.reduceBEq, IntKind.signed, Nat.reduceEqDiff, Nat.reduceLeDiff, Nat.reduceLT, eq_self, Int.reduceEq, Int.reduceLT, Int.reduceLE, Int.reduceAdd, Int.reduceSub, VC.regC_nil, VC.regC_cons, VC.regCK_eq, VC.callQ, VC.tailQ, VC.goCall, VC.chStep]
          refine ⟨⟨(ro_box st9.hp).1, hne1⟩, ⟨hs9.1, hne2⟩, ⟨hs9.1, hne2⟩, agS.trans (Agree.of_below ((Below.refl _ _).alloc (Nat.le_refl _) _)), ?_⟩
          refine OPW_appK (v := a.vo) rfl Fa.apI130 eo.symm rfl rfl (by simp [Value.oneCell']) ((st9.hp.drewN 1).get 2 rfl) (Nat.zero_le _) (by omega) (by decide) fun v7 w7 ho7 hg7 hst7 => ?_
          rw [show V.flatMap voC ++ [Value.int .i64 (i : Int), .int .i64 (b0 : Int), .int .i64 0] = (V ++ [((i : Int), (b0 : Int), (0 : Int))]).flatMap voC by simp] at ho7
          obtain ⟨A7, c7, rfl, _⟩ := id ho7
          have ho8 : OwnK w7 0 218 3 (V ++ [((i : Int), (b0 : Int), (0 : Int))]).length (.slice A7 (V.length + 1) c7) ((V ++ [((i : Int), (b0 : Int), (0 : Int))]).flatMap voC) := by rw [List.length_append]; exact ho7
          obtain ⟨⟨s1, s2⟩, st7⟩ := (st9.hp.drewN 1).growField 0 2 rfl rfl (by decide) ho8 hg7 hst7 4 (by show 4 < 8; omega)
          have ag7 : Agree (fun j => a.vo.ownBlock = some j) wD w7 := agS.trans (Agree.grown hg7 fun k hk => hk)
          simp -dsimp only [VC.heldF_done, VC.heldF_last, VC.planF_done, VC.planF_take, VC.planF_one, VC.planF_two, VC.planK_eq, VC.heldF_take, VC.heldF_one, VC.heldF_two, VC.heldF_twoL, VC.heldK_eq, VC.okRd, Fa.F76, VC.Now, VC.vc, VC.lib, VC.regQ, VC.loopK, VC.reg, VC.opP, VC.pv, VC.thenF, VC.blkF, VC.retF, VC.resV, VC.oneV, VC.evo, VC.bin, VC.binI, VC.cmpI, VC.arithI, VC.ldv, VC.slv, VC.pickP, VC.holds, VC.chainOf, VC.look, VC.junk, VC.put, VC.eff, VC.callee, VC.pureB, VC.rdK, VC.rdKs, VC.okKs, VC.eqKs, VC.fillL, VC.putL, VC.stW, VC.stOK, VC.mixF, VC.setAll, Nat.reduceAdd, Nat.reduceSub, Nat.reduceMul, if_true, if_false, ↓reduceIte, forall_const, implies_true, reduceCtorEq, ne_eq, Nat.reduceBNe, Nat.reduceBEq, IntKind.signed, Nat.reduceEqDiff, Nat.reduceLeDiff, Nat.reduceLT, eq_self, Int.reduceEq, Int.reduceLT, Int.reduceLE, Int.reduceAdd, Int.reduceSub, VC.regC_nil, VC.regC_cons, VC.regCK_eq, VC.callQ, VC.tailQ, VC.goCall, VC.chStep]
          rw [hmv]
          exact ⟨ag7, ag7, ⟨s1, s2⟩, rfl, a.vb, .slice A7 (V.length + 1) c7, a.vl, V ++ [((i : Int), (b0 : Int), (0 : Int))], T, (hR.vote hi hbt).mem _ _, by simp, by omega, (st9.drewN 1).trans st7⟩
        · have e6 := eq_false q6
          rw [show maxI (s.kn i) (s.r (s.p b0).toNat) = s.kn i from if_neg q6, upd_self] at hmv
          simp -dsimp only [Fa.F76, e6, rdSA_of c7, rdSN_of c7, rdSC_of c7, c7, rdI_of y1, y1, rdI_of v1, v1, VC.Now, VC.vc, VC.lib, VC.regQ, VC.loopK, VC.reg, VC.opP, VC.pv, VC.thenF, VC.blkF, VC.retF, VC.resV, VC.oneV, VC.evo, VC.bin, VC.binI, VC.cmpI, VC.arithI, VC.ldv, VC.slv, VC.pickP, VC.holds, VC.chainOf, VC.look, VC.junk, VC.put, VC.eff, VC.callee, VC.pureB, VC.rdK, VC.rdKs, VC.okKs, VC.eqKs, VC.fillL, VC.putL, VC.stW, VC.stOK, VC.mixF, VC.setAll, Nat.reduceAdd, Nat.reduceSub, Nat.reduceMul, if_true, if_false, ↓reduceIte, forall_const, implies_true, reduceCtorEq, ne_eq, Nat.reduceBNe, Nat.reduceBEq, IntKind.signed, Nat.reduceEqDiff, Nat.reduceLeDiff, Nat.reduceLT, eq_self, Int.reduceEq, Int.reduceLT, Int.reduceLE, Int.reduceAdd, Int.reduceSub, VC.regC_nil, VC.regC_cons, VC.regCK_eq, VC.callQ, VC.tailQ, VC.goCall, VC.chStep]
          refine ⟨⟨by omega, by omega⟩, fun m3 => ?_⟩
          have st9 := st8.drewN m3
          have hs9 := hs8.below (below_drewN (Below.refl _ _) m3)
          generalize wC.drewN m3 = wD at st9 hs9 ⊢
          obtain ⟨Ao, co, eo, _⟩ := ro_vo st9.hp
          have q4 := (ro_box st9.hp).at (i := 4) rfl
          rw [eo] at q4
          have x1 := hs9.at (i := 1) rfl
          have x2 := hs9.at (i := 2) rfl
          rw [hw] at x1
          rw [hb0] at x2
          have hne1 : ¬ a.vo.ownBlock = some a.mb := fun hf => st9.hp.ne 0 2 (by decide) rfl rfl a.mb rfl hf
          have hne2 : ¬ a.vo.ownBlock = some sb := fun hf => by have := (h.lt 2 rfl hf).2; omega
          have agS : Agree (fun j => a.vo.ownBlock = some j) wD (wD.drewN 1) := Agree.of_below (below_drewN (Below.refl _ wD) 1)
          refine WP_held 14 (fun j => a.vo.ownBlock = some j) (.take 0 (.take 1 (.take 2 (.take 3 (.take 4 (.take 5 (.take 6 (.take 7 (.take 8 (.take 9 (.one 10 (.one 11 (.one 12 (.take 13 (.one 14 .done))))))))))))))) Fa.mix (by kernel_rfl) rfl ?_
          simp -dsimp only [VC.heldF_done, VC.heldF_last, VC.planF_done, VC.planF_take, VC.planF_one, VC.planF_two, VC.planK_eq, VC.heldF_take, VC.heldF_one, VC.heldF_two, VC.heldF_twoL, VC.heldK_eq, VC.okRd, Fa.F76, rdSA_of q4, rdSN_of q4, rdSC_of q4, q4, rdI_of x1, x1, rdI_of x2, x2, VC.Now, VC.vc, VC.lib, VC.regQ, VC.loopK, VC.reg, VC.opP, VC.pv, VC.thenF, VC.blkF, VC.retF, VC.resV, VC.oneV, VC.evo, VC.bin, VC.binI, VC.cmpI, VC.arithI, VC.ldv, VC.slv, VC.pickP, VC.holds, VC.chainOf, VC.look, VC.junk, VC.put, VC.eff, VC.callee, VC.pureB, VC.rdK, VC.rdKs, VC.okKs, VC.eqKs, VC.fillL, VC.putL, VC.stW, VC.stOK, VC.mixF, VC.setAll, Nat.reduceAdd, Nat.reduceSub, Nat.reduceMul, if_true, if_false, ↓reduceIte, forall_const, implies_true, reduceCtorEq, ne_eq, Nat.reduceBNe, Nat.reduceBEq, IntKind.signed, Nat.reduceEqDiff, Nat.reduceLeDiff, Nat.reduceLT, eq_self, Int.reduceEq, Int.reduceLT, Int.reduceLE, Int.reduceAdd, Int.reduceSub, VC.regC_nil, VC.regC_cons, VC.regCK_eq, VC.callQ, VC.tailQ, VC.goCall, VC.chStep]
          refine ⟨⟨(ro_box st9.hp).1, hne1⟩, ⟨hs9.1, hne2⟩, ⟨hs9.1, hne2⟩, agS.trans (Agree.of_below ((Below.refl _ _).alloc (Nat.le_refl _) _)), ?_⟩
          refine OPW_appK (v := a.vo) rfl Fa.apI130 eo.symm rfl rfl (by simp [Value.oneCell']) ((st9.hp.drewN 1).get 2 rfl) (Nat.zero_le _) (by omega) (by decide) fun v7 w7 ho7 hg7 hst7 => ?_
          rw [show V.flatMap voC ++ [Value.int .i64 (i : Int), .int .i64 (b0 : Int), .int .i64 0] = (V ++ [((i : Int), (b0 : Int), (0 : Int))]).flatMap voC by simp] at ho7
          obtain ⟨A7, c7, rfl, _⟩ := id ho7
          have ho8 : OwnK w7 0 218 3 (V ++ [((i : Int), (b0 : Int), (0 : Int))]).length (.slice A7 (V.length + 1) c7) ((V ++ [((i : Int), (b0 : Int), (0 : Int))]).flatMap voC) := by rw [List.length_append]; exact ho7
          obtain ⟨⟨s1, s2⟩, st7⟩ := (st9.hp.drewN 1).growField 0 2 rfl rfl (by decide) ho8 hg7 hst7 4 (by show 4 < 8; omega)
          have ag7 : Agree (fun j => a.vo.ownBlock = some j) wD w7 := agS.trans (Agree.grown hg7 fun k hk => hk)
          simp -dsimp only [VC.heldF_done, VC.heldF_last, VC.planF_done, VC.planF_take, VC.planF_one, VC.planF_two, VC.planK_eq, VC.heldF_take, VC.heldF_one, VC.heldF_two, VC.heldF_twoL, VC.heldK_eq, VC.okRd, Fa.F76, VC.Now, VC.vc, VC.lib, VC.regQ, VC.loopK, VC.reg, VC.opP, VC.pv, VC.thenF, VC.blkF, VC.retF, VC.resV, VC.oneV, VC.evo, VC.bin, VC.binI, VC.cmpI, VC.arithI, VC.ldv, VC.slv, VC.pickP, VC.holds, VC.chainOf, VC.look, VC.junk, VC.put, VC.eff, VC.callee, VC.pureB, VC.rdK, VC.rdKs, VC.okKs, VC.eqKs, VC.fillL, VC.putL, VC.stW, VC.stOK, VC.mixF, VC.setAll, Nat.reduceAdd, Nat.reduceSub, Nat.reduceMul, if_true, if_false, ↓reduceIte, forall_const, implies_true, reduceCtorEq, ne_eq, Nat.reduceBNe, Nat.reduceBEq, IntKind.signed, Nat.reduceEqDiff, Nat.reduceLeDiff, Nat.reduceLT, eq_self, Int.reduceEq, Int.reduceLT, Int.reduceLE, Int.reduceAdd, Int.reduceSub, VC.regC_nil, VC.regC_cons, VC.regCK_eq, VC.callQ, VC.tailQ, VC.goCall, VC.chStep]
          rw [hmv]
          exact ⟨ag7, ag7, ⟨s1, s2⟩, rfl, a.vb, .slice A7 (V.length + 1) c7, a.vl, V ++ [((i : Int), (b0 : Int), (0 : Int))], T, (hR.vote hi hbt).mem _ _, by simp, by omega, (st9.drewN 1).trans st7⟩
      · simp -dsimp only [Fa.F76, rdI_of z1, z1, rdI_of z2, z2, VC.Now, VC.vc, VC.lib, VC.regQ, VC.loopK, VC.reg, VC.opP, VC.pv, VC.thenF, VC.blkF, VC.retF, VC.resV, VC.oneV, VC.evo, VC.bin, VC.binI, VC.cmpI, VC.arithI, VC.ldv, VC.slv, VC.pickP, VC.holds, VC.chainOf, VC.look, VC.junk, VC.put, VC.eff, VC.callee, VC.pureB, VC.rdK, VC.rdKs, VC.okKs, VC.eqKs, VC.fillL, VC.putL, VC.stW, VC.stOK, VC.mixF, VC.setAll, Nat.reduceAdd, Nat.reduceSub, Nat.reduceMul, if_true, if_false, ↓reduceIte, forall_const, implies_true, reduceCtorEq, ne_eq, Nat.reduceBNe, Nat.reduceBEq, IntKind.signed, Nat.reduceEqDiff, Nat.reduceLeDiff, Nat.reduceLT, eq_self, Int.reduceEq, Int.reduceLT, Int.reduceLE, Int.reduceAdd, Int.reduceSub, VC.regC_nil, VC.regC_cons, VC.regCK_eq, VC.callQ, VC.tailQ, VC.goCall, VC.chStep]
        intro wA hBA
        have hsA := hs5.below hBA
        have stA := h.below_st (hB5.trans (hBA.mono hB5.size))
        obtain ⟨Ao, co, eo, _⟩ := ro_vo stA.hp
        have q4 := (ro_box stA.hp).at (i := 4) rfl
        rw [eo] at q4
        have x1 := hsA.at (i := 1) rfl
        have x2 := hsA.at (i := 2) rfl
        rw [hw] at x1
        rw [hb0] at x2
        have hne1 : ¬ a.vo.ownBlock = some a.mb := fun hf => stA.hp.ne 0 2 (by decide) rfl rfl a.mb rfl hf
        have hne2 : ¬ a.vo.ownBlock = some sb := fun hf => by have := (h.lt 2 rfl hf).2; omega
        have agS : Agree (fun j => a.vo.ownBlock = some j) wA (wA.drewN 1) := Agree.of_below (below_drewN (Below.refl _ wA) 1)
        refine WP_held 14 (fun j => a.vo.ownBlock = some j) (.take 0 (.take 1 (.take 2 (.take 3 (.take 4 (.take 5 (.take 6 (.take 7 (.take 8 (.take 9 (.one 10 (.one 11 (.one 12 (.take 13 (.one 14 .done))))))))))))))) Fa.mix (by kernel_rfl) rfl ?_
        simp -dsimp only [VC.heldF_done, VC.heldF_last, VC.planF_done, VC.planF_take, VC.planF_one, VC.planF_two, VC.planK_eq, VC.heldF_take, VC.heldF_one, VC.heldF_two, VC.heldF_twoL, VC.heldK_eq, VC.okRd, Fa.F76, rdSA_of q4, rdSN_of q4, rdSC_of q4, q4, rdI_of x1, x1, rdI_of x2, x2, VC.Now, VC.vc, VC.lib, VC.regQ, VC.loopK, VC.reg, VC.opP, VC.pv, VC.thenF, VC.blkF, VC.retF, VC.resV, VC.oneV, VC.evo, VC.bin, VC.binI, VC.cmpI, VC.arithI, VC.ldv, VC.slv, VC.pickP, VC.holds, VC.chainOf, VC.look, VC.junk, VC.put, VC.eff, VC.callee, VC.pureB, VC.rdK, VC.rdKs, VC.okKs, VC.eqKs, VC.fillL, VC.putL, VC.stW, VC.stOK, VC.mixF, VC.setAll, Nat.reduceAdd, Nat.reduceSub, Nat.reduceMul, if_true, if_false, ↓reduceIte, forall_const, implies_true, reduceCtorEq, ne_eq, Nat.reduceBNe, Nat.reduceBEq, IntKind.signed, Nat.reduceEqDiff, Nat.reduceLeDiff, Nat.reduceLT, eq_self, Int.reduceEq, Int.reduceLT, Int.reduceLE, Int.reduceAdd, Int.reduceSub, VC.regC_nil, VC.regC_cons, VC.regCK_eq, VC.callQ, VC.tailQ, VC.goCall, VC.chStep]
        refine ⟨⟨(ro_box stA.hp).1, hne1⟩, ⟨hsA.1, hne2⟩, ⟨hsA.1, hne2⟩, agS.trans (Agree.of_below ((Below.refl _ _).alloc (Nat.le_refl _) _)), ?_⟩
        refine OPW_appK (v := a.vo) rfl Fa.apI130 eo.symm rfl rfl (by simp [Value.oneCell']) ((stA.hp.drewN 1).get 2 rfl) (Nat.zero_le _) (by omega) (by decide) fun v7 w7 ho7 hg7 hst7 => ?_
        rw [show V.flatMap voC ++ [Value.int .i64 (i : Int), .int .i64 (b0 : Int), .int .i64 0] = (V ++ [((i : Int), (b0 : Int), (0 : Int))]).flatMap voC by simp] at ho7
        obtain ⟨A7, c7, rfl, _⟩ := id ho7
        have ho8 : OwnK w7 0 218 3 (V ++ [((i : Int), (b0 : Int), (0 : Int))]).length (.slice A7 (V.length + 1) c7) ((V ++ [((i : Int), (b0 : Int), (0 : Int))]).flatMap voC) := by rw [List.length_append]; exact ho7
        obtain ⟨⟨s1, s2⟩, st7⟩ := (stA.hp.drewN 1).growField 0 2 rfl rfl (by decide) ho8 hg7 hst7 4 (by show 4 < 8; omega)
        have ag7 : Agree (fun j => a.vo.ownBlock = some j) wA w7 := agS.trans (Agree.grown hg7 fun k hk => hk)
        simp -dsimp only [VC.heldF_done, VC.heldF_last, VC.planF_done, VC.planF_take, VC.planF_one, VC.planF_two, VC.planK_eq, VC.heldF_take, VC.heldF_one, VC.heldF_two, VC.heldF_twoL, VC.heldK_eq, VC.okRd, Fa.F76, VC.Now, VC.vc, VC.lib, VC.regQ, VC.loopK, VC.reg, VC.opP, VC.pv, VC.thenF, VC.blkF, VC.retF, VC.resV, VC.oneV, VC.evo, VC.bin, VC.binI, VC.cmpI, VC.arithI, VC.ldv, VC.slv, VC.pickP, VC.holds, VC.chainOf, VC.look, VC.junk, VC.put, VC.eff, VC.callee, VC.pureB, VC.rdK, VC.rdKs, VC.okKs, VC.eqKs, VC.fillL, VC.putL, VC.stW, VC.stOK, VC.mixF, VC.setAll, Nat.reduceAdd, Nat.reduceSub, Nat.reduceMul, if_true, if_false, ↓reduceIte, forall_const, implies_true, reduceCtorEq, ne_eq, Nat.reduceBNe, Nat.reduceBEq, IntKind.signed, Nat.reduceEqDiff, Nat.reduceLeDiff, Nat.reduceLT, eq_self, Int.reduceEq, Int.reduceLT, Int.reduceLE, Int.reduceAdd, Int.reduceSub, VC.regC_nil, VC.regC_cons, VC.regCK_eq, VC.callQ, VC.tailQ, VC.goCall, VC.chStep]
        rw [show mvote n (n - f) liars i c s = (0, { s with vm := upd s.vm b0 (s.vm b0 ||| 2 ^ i) }) from by unfold mvote; rw [if_neg q0, hbN, if_neg (by simp [hbit, hli]), if_pos hli]]
        exact ⟨ag7, ag7, ⟨s1, s2⟩, rfl, a.vb, .slice A7 (V.length + 1) c7, a.vl, V ++ [((i : Int), (b0 : Int), (0 : Int))], T, hR.vote hi hbt, by simp, by omega, (stA.drewN 1).trans st7⟩
end
end Go.Proofs.Ytnggjekppdlaoaa
