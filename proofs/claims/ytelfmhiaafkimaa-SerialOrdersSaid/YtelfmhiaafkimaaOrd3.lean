/- Transactions in an order: who must stand ahead of whom. -/
import Derived.Test.YtelfmhiaafkimaaOrd2
namespace Go.Proofs.Ytelfmhiaafkimaa
open Go Go.RowKit Go.VC
set_option linter.unusedSimpArgs false
set_option linter.unusedVariables false
noncomputable def oneO (b : Bool) : Option Value := if b = true then some (.int .i64 1) else none
theorem EI_ok (t : Nat) (h : t < 6) : EI.ok (t : Int) := (fits_i64 (by omega) (by omega) : fits .i64 (t : Int))
def EdQ (K T I : Nat → Int) (len B : Nat) (v : Value) (w : World) : Prop :=
  ∃ p ib cn em mb, v = .map (some mb) ∧ Hp B (MObs p ib cn em mb) w ∧ (∀ t : Nat, t < 6 → p t = presB T len t) ∧ ∀ t : Nat, t < 6 → ∀ u, em t u = oneO (edgeB K T I len t u)
set_option maxRecDepth 8000 in
set_option maxHeartbeats 4000000 in
theorem edges_any (A : Option Addr) (len c : Nat) (K T I : Nat → Int) (w : World) (hr : Rd3 w A len K T I) (hl : len ≤ 60) (hT : ∀ j, j < len → 0 ≤ T j ∧ T j < 6) (hc : len ≤ c) :
    Calls Try.prog 43 #[.slice A len c] w fun e w' => ∃ v, e = .returned v ∧ EdQ K T I len w.heap.size v w' ∧ Below w.heap.size w w' := by
  refine calls_vc (rs := [.tmp 2]) Fa.mix Try.func43 rfl Try.ntmps43 rfl (by kernel_rfl) (Nat.le_of_ble_eq_true rfl) ?_
  simp -dsimp (maxSteps := 2000000) only [Fa.F43, VC.Now, VC.vc, VC.lib, VC.mapN_drewN, VC.mapB_drewN, VC.regQ, VC.loopK, VC.reg, VC.opP, VC.opS, VC.opZ, VC.nomulB, VC.pv, VC.thenF, VC.blkF, VC.retF, VC.resV, VC.oneV, VC.evo, VC.bin, VC.binI, VC.cmpI, VC.arithI, VC.ldv, VC.slv, VC.pickP, VC.holds, VC.chainOf, VC.look, VC.junk, VC.put, VC.eff, VC.callee, VC.pureB, VC.rdK, VC.rdKs, VC.okKs, VC.eqKs, VC.fillL, VC.putL, VC.stW, VC.stOK, VC.mixF, VC.setAll, Nat.reduceAdd, Nat.reduceSub, Nat.reduceMul, if_true, if_false, ↓reduceIte, forall_const, implies_true, reduceCtorEq, ne_eq, Nat.reduceBNe, Nat.reduceBEq, IntKind.signed, Nat.reduceEqDiff, Nat.reduceLeDiff, Nat.reduceLT, eq_self, Int.reduceEq, Int.reduceLT, Int.reduceLE, Int.reduceAdd, Int.reduceSub, VC.regC_nil, VC.regC_cons, VC.regCK_eq, VC.callQ, VC.tailQ, VC.goCall, VC.chStep]
  refine OPW_makeMapV EI rfl fun w5 hw5 hM5 => ?_
  have hB5 : Below w.heap.size w w5 := by rw [hw5]; exact (Below.refl _ w).alloc (Nat.le_refl _) _
  have hH0 : Hp w.heap.size (MObs (fun _ => false) (fun _ => 0) (fun _ => 0) (fun _ _ => none) w.heap.size) w5 := by
    have h1 := ((Hp.nil (B := w.heap.size) (Nat.le_refl _)).st_add (o := oMap EI w.heap.size 0 (fun _ => none)) hB5 hM5 (fun g hg => by cases hg; exact Nat.le_refl _)).hp
    have h2 := h1.free (M := fam 6 (eO (fun _ => false) (fun _ => 0) (fun _ => 0) (fun _ _ => none)) ++ []) (fun o ho => by
      rw [List.append_nil] at ho
      obtain ⟨i, _, rfl⟩ := List.mem_map.1 ho
      exact ⟨OwnK.nil _ _ _ _, rfl⟩)
    have e : outM (fun _ => false) (fun _ => 0) = fun _ => none := by
      funext x; unfold outM; rw [if_neg]; intro hh; cases hh.2
    unfold MObs
    rw [e]
    exact h2
  rw [VC.Now, VC.seqK_eq]
  simp -dsimp (maxSteps := 2000000) only [Fa.F43, VC.Now, VC.vc, VC.lib, VC.mapN_drewN, VC.mapB_drewN, VC.regQ, VC.loopK, VC.reg, VC.opP, VC.opS, VC.opZ, VC.nomulB, VC.pv, VC.thenF, VC.blkF, VC.retF, VC.resV, VC.oneV, VC.evo, VC.bin, VC.binI, VC.cmpI, VC.arithI, VC.ldv, VC.slv, VC.pickP, VC.holds, VC.chainOf, VC.look, VC.junk, VC.put, VC.eff, VC.callee, VC.pureB, VC.rdK, VC.rdKs, VC.okKs, VC.eqKs, VC.fillL, VC.putL, VC.stW, VC.stOK, VC.mixF, VC.setAll, Nat.reduceAdd, Nat.reduceSub, Nat.reduceMul, if_true, if_false, ↓reduceIte, forall_const, implies_true, reduceCtorEq, ne_eq, Nat.reduceBNe, Nat.reduceBEq, IntKind.signed, Nat.reduceEqDiff, Nat.reduceLeDiff, Nat.reduceLT, eq_self, Int.reduceEq, Int.reduceLT, Int.reduceLE, Int.reduceAdd, Int.reduceSub, VC.regC_nil, VC.regC_cons, VC.regCK_eq, VC.callQ, VC.tailQ, VC.goCall, VC.chStep]
  refine loop_slots Fa.mix [11] [4, 5, 7, 12, 13, 14, 15, 16, 17, 18, 19, 20, 21, 22, 23, 24, 25, 26, 27, 28, 29, 30, 31, 32, 33, 34, 35, 36, 37, 38, 39, 40, 41, 42, 43] (fun m vs wx => ∃ (k : Nat) (p : Nat → Bool) (ib cn : Nat → Nat) (em : Nat → Int → Option Value), k + m = len ∧ vs = [.int .i64 k] ∧ Below w.heap.size w wx ∧ Hp w.heap.size (MObs p ib cn em w.heap.size) wx ∧
      (∀ t : Nat, t < 6 → p t = presB T k t) ∧ (∀ t : Nat, t < 6 → ∀ u, em t u = oneO (edgeB K T I k t u)) ∧ ∀ t, cn t ≤ 100 * k) len (by kernel_rfl) rfl
    ⟨0, fun _ => false, fun _ => 0, fun _ => 0, fun _ _ => none, by omega, rfl, hB5, hH0, fun t _ => rfl, fun t _ u => rfl, fun t => Nat.le_refl _⟩ ?_
  clear hH0 hB5 hM5 hw5
  rintro m vs u2 wx ⟨k, p, ib, cn, em, hkm, rfl, hBx, hH, hp, he, hcn⟩
  by_cases hk : k < len
  · have e7 : ((k : Int) < len) = True := eq_true (by omega)
    obtain ⟨b, o, rfl, hb, hc3⟩ := (hr.below hBx) (by omega)
    obtain ⟨h1, h2, h3, _⟩ := hc3 k hk
    obtain ⟨tk, htk⟩ : ∃ tk : Nat, T k = tk := ⟨(T k).toNat, by have := hT k hk; omega⟩
    have htk6 : tk < 6 := by have := hT k hk; omega
    simp -dsimp (maxSteps := 2000000) only [Fa.F43, e7, rdI_of h1, h1, rdI_of h2, h2, rdI_of h3, h3, hb, Int.toNat_natCast, VC.Now, VC.vc, VC.lib, VC.mapN_drewN, VC.mapB_drewN, VC.regQ, VC.loopK, VC.reg, VC.opP, VC.opS, VC.opZ, VC.nomulB, VC.pv, VC.thenF, VC.blkF, VC.retF, VC.resV, VC.oneV, VC.evo, VC.bin, VC.binI, VC.cmpI, VC.arithI, VC.ldv, VC.slv, VC.pickP, VC.holds, VC.chainOf, VC.look, VC.junk, VC.put, VC.eff, VC.callee, VC.pureB, VC.rdK, VC.rdKs, VC.okKs, VC.eqKs, VC.fillL, VC.putL, VC.stW, VC.stOK, VC.mixF, VC.setAll, Nat.reduceAdd, Nat.reduceSub, Nat.reduceMul, if_true, if_false, ↓reduceIte, forall_const, implies_true, reduceCtorEq, ne_eq, Nat.reduceBNe, Nat.reduceBEq, IntKind.signed, Nat.reduceEqDiff, Nat.reduceLeDiff, Nat.reduceLT, eq_self, Int.reduceEq, Int.reduceLT, Int.reduceLE, Int.reduceAdd, Int.reduceSub, VC.regC_nil, VC.regC_cons, VC.regCK_eq, VC.callQ, VC.tailQ, VC.goCall, VC.chStep]
    refine ⟨by omega, ?_⟩
    have bx := Box.new wx [.int .i64 (K k), .int .i64 (T k), .int .i64 (I k)] 99
    have hBs : Below wx.heap.size wx (wx.alloc (.cells #[.int .i64 (K k), .int .i64 (T k), .int .i64 (I k)] 99)) := (Below.refl _ _).alloc (Nat.le_refl _) _
    change OPW _ _ _ (wx.alloc (.cells #[.int .i64 (K k), .int .i64 (T k), .int .i64 (I k)] 99)) _
    generalize wx.alloc (.cells #[.int .i64 (K k), .int .i64 (T k), .int .i64 (I k)] 99) = wy at bx hBs ⊢
    have hBy := hBx.trans (hBs.mono hH.base)
    have hHy := hH.below hBs
    have nsb : ¬ foot (MObs p ib cn em w.heap.size) wx.heap.size := fun hf => absurd (hH.foot_lt hf).2 (Nat.lt_irrefl _)
    have hwb := hH.base
    clear hBs hBx hH
    generalize wx.heap.size = sb at bx nsb hwb ⊢
    have b1 := bx.at (i := 1) rfl
    have hsl := bx.1
    have hF := Hp.snoc (o := oBox sb [.int .i64 (K k), .int .i64 (T k), .int .i64 (I k)]) hHy bx (fun g hg => by cases hg; exact ⟨hwb, nsb⟩)
    by_cases hpt : p tk = true
    · refine OPW_lookV (x := (tk : Int)) (z := .map none) (v := .map (some (ib tk))) (MObs.out hHy) rfl (by kernel_rfl) rfl (by rw [← htk]; rfl) (EI_ok tk htk6) (by rw [outM_at htk6, if_pos hpt]; rfl) ?_
      rw [VC.Now, VC.seqK_eq]
      simp -dsimp (maxSteps := 2000000) only [Fa.F43, Option.isNone_some, Bool.false_eq_true, VC.Now, VC.vc, VC.lib, VC.mapN_drewN, VC.mapB_drewN, VC.regQ, VC.loopK, VC.reg, VC.opP, VC.opS, VC.opZ, VC.nomulB, VC.pv, VC.thenF, VC.blkF, VC.retF, VC.resV, VC.oneV, VC.evo, VC.bin, VC.binI, VC.cmpI, VC.arithI, VC.ldv, VC.slv, VC.pickP, VC.holds, VC.chainOf, VC.look, VC.junk, VC.put, VC.eff, VC.callee, VC.pureB, VC.rdK, VC.rdKs, VC.okKs, VC.eqKs, VC.fillL, VC.putL, VC.stW, VC.stOK, VC.mixF, VC.setAll, Nat.reduceAdd, Nat.reduceSub, Nat.reduceMul, if_true, if_false, ↓reduceIte, forall_const, implies_true, reduceCtorEq, ne_eq, Nat.reduceBNe, Nat.reduceBEq, IntKind.signed, Nat.reduceEqDiff, Nat.reduceLeDiff, Nat.reduceLT, eq_self, Int.reduceEq, Int.reduceLT, Int.reduceLE, Int.reduceAdd, Int.reduceSub, VC.regC_nil, VC.regC_cons, VC.regCK_eq, VC.callQ, VC.tailQ, VC.goCall, VC.chStep]
      have hps : ∀ t : Nat, t < 6 → p t = presB T (k + 1) t := fun t ht => by
        rw [presB_succ, ← hp t ht]
        by_cases e : T k = t
        · obtain rfl : t = tk := by omega
          rw [hpt]; rfl
        · rw [decide_eq_false e, Bool.or_false]
      have hp2 : ∀ t : Nat, t < 6 → p t = presB T (k + 1) t := hps
      have he2 : ∀ t : Nat, t < 6 → ∀ u, em t u = oneO (edJ K T I k 0 t u) := (fun t ht u => by rw [edJ_zero]; exact he t ht u)
      have hpk : p tk = true := by rw [hp2 tk htk6, presB_succ, htk, decide_eq_true rfl, Bool.or_true]
      refine ⟨⟨by omega, by omega⟩, ?_⟩
      refine loop_slots Fa.mix [29] [7, 30, 31, 32, 33, 34, 35, 36, 37, 38, 39, 40, 41, 42] (fun m vs wx => ∃ (j : Nat) (cn : Nat → Nat) (em : Nat → Int → Option Value), j + m = k ∧ vs = [.int .i64 j] ∧ Below w.heap.size w wx ∧ Hp w.heap.size (MObs p ib cn em w.heap.size ++ [oBox sb [.int .i64 (K k), .int .i64 (T k), .int .i64 (I k)]]) wx ∧
          (∀ t : Nat, t < 6 → ∀ u, em t u = oneO (edJ K T I k j t u)) ∧ ∀ t, cn t ≤ 100 * k + j) k (by kernel_rfl) rfl
        ⟨0, cn, em, by omega, rfl, hBy, hF, he2, (fun t => hcn t)⟩ ?_
      rintro m2 vs u3 wx ⟨j, cn2, em2, hjm, rfl, hBx, hH, he3, hcn3⟩
      have fs : Box wx sb [.int .i64 (K k), .int .i64 (T k), .int .i64 (I k)] := hH.get 7 rfl
      have b0 := fs.at (i := 0) rfl
      have b1 := fs.at (i := 1) rfl
      have b2 := fs.at (i := 2) rfl
      have hsl := fs.1
      by_cases hj : j < k
      · have e8 : ((j : Int) < k) = True := eq_true (by omega)
        have hc3 := (hr.below hBx) (by omega)
        obtain ⟨b', o', hbo, hb, hc3⟩ := hc3
        cases hbo
        obtain ⟨j1, j2, j3, jf⟩ := hc3 j (by omega)
        have hTj := hT j (by omega)
        obtain ⟨uj, huj⟩ : ∃ uj : Nat, T j = uj := ⟨(T j).toNat, by omega⟩
        have huj6 : uj < 6 := by omega
        simp -dsimp (maxSteps := 2000000) only [Fa.F43, e8, rdI_of j1, j1, rdI_of j2, j2, rdI_of j3, j3, hb, rdI_of b0, b0, rdI_of b1, b1, rdI_of b2, b2, hsl, Int.toNat_natCast, VC.Now, VC.vc, VC.lib, VC.mapN_drewN, VC.mapB_drewN, VC.regQ, VC.loopK, VC.reg, VC.opP, VC.opS, VC.opZ, VC.nomulB, VC.pv, VC.thenF, VC.blkF, VC.retF, VC.resV, VC.oneV, VC.evo, VC.bin, VC.binI, VC.cmpI, VC.arithI, VC.ldv, VC.slv, VC.pickP, VC.holds, VC.chainOf, VC.look, VC.junk, VC.put, VC.eff, VC.callee, VC.pureB, VC.rdK, VC.rdKs, VC.okKs, VC.eqKs, VC.fillL, VC.putL, VC.stW, VC.stOK, VC.mixF, VC.setAll, Nat.reduceAdd, Nat.reduceSub, Nat.reduceMul, if_true, if_false, ↓reduceIte, forall_const, implies_true, reduceCtorEq, ne_eq, Nat.reduceBNe, Nat.reduceBEq, IntKind.signed, Nat.reduceEqDiff, Nat.reduceLeDiff, Nat.reduceLT, eq_self, Int.reduceEq, Int.reduceLT, Int.reduceLE, Int.reduceAdd, Int.reduceSub, VC.regC_nil, VC.regC_cons, VC.regCK_eq, VC.callQ, VC.tailQ, VC.goCall, VC.chStep]
        refine ⟨by omega, ?_⟩
        have bx2 := Box.new wx [.int .i64 (K j), .int .i64 (T j), .int .i64 (I j)] 99
        have hBs2 : Below wx.heap.size wx (wx.alloc (.cells #[.int .i64 (K j), .int .i64 (T j), .int .i64 (I j)] 99)) := (Below.refl _ _).alloc (Nat.le_refl _) _
        refine CALL_of (clash_any (K j) (T j) (I j) (K k) (T k) (I k) _) fun w3 hB3 => ?_
        have hH3 := (hH.below hBs2).below hB3
        have hBy3 := (hBx.trans (hBs2.mono hH.base)).trans (hB3.mono (hH.below hBs2).base)
        have bx3 := bx2.below hB3
        have hcl0 : decide (clP (K j) (T j) (I j) (K k) (T k) (I k)) = clashB K T I j k := by unfold clashB; exact decide_eq_decide.2 Iff.rfl
        rw [hcl0, VC.Now, VC.seqK_eq]
        have hes : ∀ t u, edJ K T I k (j + 1) t u = (edJ K T I k j t u || (decide (T k = t) && (decide (T j = u) && clashB K T I j k))) := fun t u => edJ_succ
        generalize wx.heap.size = sb2 at bx3
        cases hcl : clashB K T I j k with
        | false =>
          simp -dsimp (maxSteps := 2000000) only [Fa.F43, VC.Now, VC.vc, VC.lib, VC.mapN_drewN, VC.mapB_drewN, VC.regQ, VC.loopK, VC.reg, VC.opP, VC.opS, VC.opZ, VC.nomulB, VC.pv, VC.thenF, VC.blkF, VC.retF, VC.resV, VC.oneV, VC.evo, VC.bin, VC.binI, VC.cmpI, VC.arithI, VC.ldv, VC.slv, VC.pickP, VC.holds, VC.chainOf, VC.look, VC.junk, VC.put, VC.eff, VC.callee, VC.pureB, VC.rdK, VC.rdKs, VC.okKs, VC.eqKs, VC.fillL, VC.putL, VC.stW, VC.stOK, VC.mixF, VC.setAll, Nat.reduceAdd, Nat.reduceSub, Nat.reduceMul, if_true, if_false, ↓reduceIte, forall_const, implies_true, reduceCtorEq, ne_eq, Nat.reduceBNe, Nat.reduceBEq, IntKind.signed, Nat.reduceEqDiff, Nat.reduceLeDiff, Nat.reduceLT, eq_self, Int.reduceEq, Int.reduceLT, Int.reduceLE, Int.reduceAdd, Int.reduceSub, VC.regC_nil, VC.regC_cons, VC.regCK_eq, VC.callQ, VC.tailQ, VC.goCall, VC.chStep]
          refine ⟨fits_i64_nat (by omega), SAME.intro (by kernel_rfl), m2 - 1, by omega, j + 1, cn2, em2, by omega, rfl, hBy3, hH3, fun t ht u => ?_, fun t => by have := hcn3 t; omega⟩
          rw [hes, hcl, Bool.and_false, Bool.and_false, Bool.or_false]
          exact he3 t ht u
        | true =>
          have fs3 : Box w3 sb [.int .i64 (K k), .int .i64 (T k), .int .i64 (I k)] := hH3.get 7 rfl
          have b1 := fs3.at (i := 1) rfl
          have hsl := fs3.1
          have c1 := bx3.at (i := 1) rfl
          have hsl2 := bx3.1
          simp -dsimp (maxSteps := 2000000) only [Fa.F43, rdI_of b1, b1, hsl, VC.Now, VC.vc, VC.lib, VC.mapN_drewN, VC.mapB_drewN, VC.regQ, VC.loopK, VC.reg, VC.opP, VC.opS, VC.opZ, VC.nomulB, VC.pv, VC.thenF, VC.blkF, VC.retF, VC.resV, VC.oneV, VC.evo, VC.bin, VC.binI, VC.cmpI, VC.arithI, VC.ldv, VC.slv, VC.pickP, VC.holds, VC.chainOf, VC.look, VC.junk, VC.put, VC.eff, VC.callee, VC.pureB, VC.rdK, VC.rdKs, VC.okKs, VC.eqKs, VC.fillL, VC.putL, VC.stW, VC.stOK, VC.mixF, VC.setAll, Nat.reduceAdd, Nat.reduceSub, Nat.reduceMul, if_true, if_false, ↓reduceIte, forall_const, implies_true, reduceCtorEq, ne_eq, Nat.reduceBNe, Nat.reduceBEq, IntKind.signed, Nat.reduceEqDiff, Nat.reduceLeDiff, Nat.reduceLT, eq_self, Int.reduceEq, Int.reduceLT, Int.reduceLE, Int.reduceAdd, Int.reduceSub, VC.regC_nil, VC.regC_cons, VC.regCK_eq, VC.callQ, VC.tailQ, VC.goCall, VC.chStep]
          refine OPW_lookV (x := (tk : Int)) (z := .map none) (v := .map (some (ib tk))) (MObs.out hH3.left) rfl (by kernel_rfl) rfl (by rw [← htk]; rfl) (EI_ok tk htk6) (by rw [outM_at htk6, if_pos hpk]; rfl) ?_
          rw [VC.Now, VC.seqK_eq]
          simp -dsimp (maxSteps := 2000000) only [Fa.F43, rdI_of c1, c1, hsl2, VC.Now, VC.vc, VC.lib, VC.mapN_drewN, VC.mapB_drewN, VC.regQ, VC.loopK, VC.reg, VC.opP, VC.opS, VC.opZ, VC.nomulB, VC.pv, VC.thenF, VC.blkF, VC.retF, VC.resV, VC.oneV, VC.evo, VC.bin, VC.binI, VC.cmpI, VC.arithI, VC.ldv, VC.slv, VC.pickP, VC.holds, VC.chainOf, VC.look, VC.junk, VC.put, VC.eff, VC.callee, VC.pureB, VC.rdK, VC.rdKs, VC.okKs, VC.eqKs, VC.fillL, VC.putL, VC.stW, VC.stOK, VC.mixF, VC.setAll, Nat.reduceAdd, Nat.reduceSub, Nat.reduceMul, if_true, if_false, ↓reduceIte, forall_const, implies_true, reduceCtorEq, ne_eq, Nat.reduceBNe, Nat.reduceBEq, IntKind.signed, Nat.reduceEqDiff, Nat.reduceLeDiff, Nat.reduceLT, eq_self, Int.reduceEq, Int.reduceLT, Int.reduceLE, Int.reduceAdd, Int.reduceSub, VC.regC_nil, VC.regC_cons, VC.regCK_eq, VC.callQ, VC.tailQ, VC.goCall, VC.chStep]
          have hMi := MObs.inn hH3.left htk6 hpk
          have hcnk := hcn3 tk
          refine OPW_updV (x := (uj : Int)) (c := .int .i64 1) hMi rfl (by kernel_rfl) rfl (by rw [← huj]; rfl) rfl (EI_ok uj huj6) (by unfold maxLen; omega) fun w5 hM5 ht5 => ?_
          have st := (MObs.turn hH3.left htk6 hpk hM5 ht5).part hH3
          rw [VC.Now, VC.seqK_eq]
          simp -dsimp (maxSteps := 2000000) only [Fa.F43, VC.Now, VC.vc, VC.lib, VC.mapN_drewN, VC.mapB_drewN, VC.regQ, VC.loopK, VC.reg, VC.opP, VC.opS, VC.opZ, VC.nomulB, VC.pv, VC.thenF, VC.blkF, VC.retF, VC.resV, VC.oneV, VC.evo, VC.bin, VC.binI, VC.cmpI, VC.arithI, VC.ldv, VC.slv, VC.pickP, VC.holds, VC.chainOf, VC.look, VC.junk, VC.put, VC.eff, VC.callee, VC.pureB, VC.rdK, VC.rdKs, VC.okKs, VC.eqKs, VC.fillL, VC.putL, VC.stW, VC.stOK, VC.mixF, VC.setAll, Nat.reduceAdd, Nat.reduceSub, Nat.reduceMul, if_true, if_false, ↓reduceIte, forall_const, implies_true, reduceCtorEq, ne_eq, Nat.reduceBNe, Nat.reduceBEq, IntKind.signed, Nat.reduceEqDiff, Nat.reduceLeDiff, Nat.reduceLT, eq_self, Int.reduceEq, Int.reduceLT, Int.reduceLE, Int.reduceAdd, Int.reduceSub, VC.regC_nil, VC.regC_cons, VC.regCK_eq, VC.callQ, VC.tailQ, VC.goCall, VC.chStep]
          refine ⟨fits_i64_nat (by omega), SAME.intro (by kernel_rfl), m2 - 1, by omega, j + 1, _, _, by omega, rfl, hBy3.trans (st.below hH3), st.hp, fun t ht u => ?_, fun t => ?_⟩
          · rw [hes, hcl, Bool.and_true]
            by_cases e : t = tk
            · subst e
              rw [upd_same, htk, decide_eq_true rfl, Bool.true_and]
              by_cases e2 : u = uj
              · subst e2; rw [updV_same, huj, decide_eq_true rfl, Bool.or_true]; rfl
              · rw [updV_other e2, he3 t ht u, decide_eq_false (by omega), Bool.or_false]
            · rw [upd_other e, he3 t ht u, decide_eq_false (by omega), Bool.false_and, Bool.or_false]
          · by_cases e : t = tk
            · subst e
              rw [upd_same]
              split <;> omega
            · rw [upd_other e]
              have := hcn3 t
              omega
      · obtain rfl : j = k := by omega
        have e8 : ((j : Int) < j) = False := eq_false (by omega)
        simp -dsimp (maxSteps := 2000000) only [Fa.F43, e8, VC.Now, VC.vc, VC.lib, VC.mapN_drewN, VC.mapB_drewN, VC.regQ, VC.loopK, VC.reg, VC.opP, VC.opS, VC.opZ, VC.nomulB, VC.pv, VC.thenF, VC.blkF, VC.retF, VC.resV, VC.oneV, VC.evo, VC.bin, VC.binI, VC.cmpI, VC.arithI, VC.ldv, VC.slv, VC.pickP, VC.holds, VC.chainOf, VC.look, VC.junk, VC.put, VC.eff, VC.callee, VC.pureB, VC.rdK, VC.rdKs, VC.okKs, VC.eqKs, VC.fillL, VC.putL, VC.stW, VC.stOK, VC.mixF, VC.setAll, Nat.reduceAdd, Nat.reduceSub, Nat.reduceMul, if_true, if_false, ↓reduceIte, forall_const, implies_true, reduceCtorEq, ne_eq, Nat.reduceBNe, Nat.reduceBEq, IntKind.signed, Nat.reduceEqDiff, Nat.reduceLeDiff, Nat.reduceLT, eq_self, Int.reduceEq, Int.reduceLT, Int.reduceLE, Int.reduceAdd, Int.reduceSub, VC.regC_nil, VC.regC_cons, VC.regCK_eq, VC.callQ, VC.tailQ, VC.goCall, VC.chStep]
        exact ⟨fits_i64_nat (by omega), SAME.intro (by kernel_rfl), m - 1, by omega, j + 1, p, ib, cn2, em2, by omega, rfl, hBx, hH.left, hp2, fun t ht u => by rw [he3 t ht u, edJ_all], fun t => by have := hcn3 t; omega⟩
    · refine OPW_lookV (x := (tk : Int)) (z := .map none) (v := .map none) (MObs.out hHy) rfl (by kernel_rfl) rfl (by rw [← htk]; rfl) (EI_ok tk htk6) (by rw [outM_at htk6, if_neg hpt]; rfl) ?_
      rw [VC.Now, VC.seqK_eq]
      simp -dsimp (maxSteps := 2000000) only [Fa.F43, rdI_of b1, b1, hsl, Option.isNone_none, VC.Now, VC.vc, VC.lib, VC.mapN_drewN, VC.mapB_drewN, VC.regQ, VC.loopK, VC.reg, VC.opP, VC.opS, VC.opZ, VC.nomulB, VC.pv, VC.thenF, VC.blkF, VC.retF, VC.resV, VC.oneV, VC.evo, VC.bin, VC.binI, VC.cmpI, VC.arithI, VC.ldv, VC.slv, VC.pickP, VC.holds, VC.chainOf, VC.look, VC.junk, VC.put, VC.eff, VC.callee, VC.pureB, VC.rdK, VC.rdKs, VC.okKs, VC.eqKs, VC.fillL, VC.putL, VC.stW, VC.stOK, VC.mixF, VC.setAll, Nat.reduceAdd, Nat.reduceSub, Nat.reduceMul, if_true, if_false, ↓reduceIte, forall_const, implies_true, reduceCtorEq, ne_eq, Nat.reduceBNe, Nat.reduceBEq, IntKind.signed, Nat.reduceEqDiff, Nat.reduceLeDiff, Nat.reduceLT, eq_self, Int.reduceEq, Int.reduceLT, Int.reduceLE, Int.reduceAdd, Int.reduceSub, VC.regC_nil, VC.regC_cons, VC.regCK_eq, VC.callQ, VC.tailQ, VC.goCall, VC.chStep]
      refine OPW_makeMapV EI rfl fun w5 hw5 hM5 => ?_
      have hB5 : Below wy.heap.size wy w5 := by rw [hw5]; exact (Below.refl _ wy).alloc (Nat.le_refl _) _
      rw [VC.Now, VC.seqK_eq]
      simp -dsimp (maxSteps := 2000000) only [Fa.F43, VC.Now, VC.vc, VC.lib, VC.mapN_drewN, VC.mapB_drewN, VC.regQ, VC.loopK, VC.reg, VC.opP, VC.opS, VC.opZ, VC.nomulB, VC.pv, VC.thenF, VC.blkF, VC.retF, VC.resV, VC.oneV, VC.evo, VC.bin, VC.binI, VC.cmpI, VC.arithI, VC.ldv, VC.slv, VC.pickP, VC.holds, VC.chainOf, VC.look, VC.junk, VC.put, VC.eff, VC.callee, VC.pureB, VC.rdK, VC.rdKs, VC.okKs, VC.eqKs, VC.fillL, VC.putL, VC.stW, VC.stOK, VC.mixF, VC.setAll, Nat.reduceAdd, Nat.reduceSub, Nat.reduceMul, if_true, if_false, ↓reduceIte, forall_const, implies_true, reduceCtorEq, ne_eq, Nat.reduceBNe, Nat.reduceBEq, IntKind.signed, Nat.reduceEqDiff, Nat.reduceLeDiff, Nat.reduceLT, eq_self, Int.reduceEq, Int.reduceLT, Int.reduceLE, Int.reduceAdd, Int.reduceSub, VC.regC_nil, VC.regC_cons, VC.regCK_eq, VC.callQ, VC.tailQ, VC.goCall, VC.chStep]
      have hpf : p tk = false := by simpa using hpt
      have hMo : MapV Try.prog EI w5 w.heap.size (cntP p) (outM p ib) := (MObs.out hHy).below hB5
      have hcp := cntP_le p
      refine OPW_updV (x := (tk : Int)) (c := .map (some wy.heap.size)) hMo rfl (by kernel_rfl) rfl (by rw [← htk]; rfl) rfl (EI_ok tk htk6) (by unfold maxLen; omega) fun w6 hM6 ht6 => ?_
      rw [outM_at htk6, if_neg hpt] at hM6
      have st := (MObs.more hHy htk6 hpf hB5 hM5 hM6 ht6).part hF
      rw [VC.Now, VC.seqK_eq]
      simp -dsimp (maxSteps := 2000000) only [Fa.F43, VC.Now, VC.vc, VC.lib, VC.mapN_drewN, VC.mapB_drewN, VC.regQ, VC.loopK, VC.reg, VC.opP, VC.opS, VC.opZ, VC.nomulB, VC.pv, VC.thenF, VC.blkF, VC.retF, VC.resV, VC.oneV, VC.evo, VC.bin, VC.binI, VC.cmpI, VC.arithI, VC.ldv, VC.slv, VC.pickP, VC.holds, VC.chainOf, VC.look, VC.junk, VC.put, VC.eff, VC.callee, VC.pureB, VC.rdK, VC.rdKs, VC.okKs, VC.eqKs, VC.fillL, VC.putL, VC.stW, VC.stOK, VC.mixF, VC.setAll, Nat.reduceAdd, Nat.reduceSub, Nat.reduceMul, if_true, if_false, ↓reduceIte, forall_const, implies_true, reduceCtorEq, ne_eq, Nat.reduceBNe, Nat.reduceBEq, IntKind.signed, Nat.reduceEqDiff, Nat.reduceLeDiff, Nat.reduceLT, eq_self, Int.reduceEq, Int.reduceLT, Int.reduceLE, Int.reduceAdd, Int.reduceSub, VC.regC_nil, VC.regC_cons, VC.regCK_eq, VC.callQ, VC.tailQ, VC.goCall, VC.chStep]
      have hps : ∀ t : Nat, t < 6 → upd p tk true t = presB T (k + 1) t := fun t ht => by
        rw [presB_succ, ← hp t ht]
        by_cases e : T k = t
        · obtain rfl : t = tk := by omega
          rw [upd_same, decide_eq_true e, Bool.or_true]
        · rw [upd_other (by omega), decide_eq_false e, Bool.or_false]
      have hes0 : ∀ t : Nat, t < 6 → ∀ u, upd em tk (fun _ => none) t u = oneO (edJ K T I k 0 t u) := fun t ht u => by
        rw [edJ_zero]
        by_cases e : t = tk
        · subst e
          rw [upd_same, presB_none (by rw [← hp t ht]; exact hpf)]; rfl
        · rw [upd_other e]; exact he t ht u
      have hcs : ∀ t, upd cn tk 0 t ≤ 100 * k + 0 := fun t => by
        by_cases e : t = tk
        · subst e; rw [upd_same]; omega
        · rw [upd_other e]; exact hcn t
      have hp2 : ∀ t : Nat, t < 6 → (upd p tk true) t = presB T (k + 1) t := hps
      have he2 : ∀ t : Nat, t < 6 → ∀ u, (upd em tk fun _ => none) t u = oneO (edJ K T I k 0 t u) := hes0
      have hpk : (upd p tk true) tk = true := by rw [hp2 tk htk6, presB_succ, htk, decide_eq_true rfl, Bool.or_true]
      refine ⟨⟨by omega, by omega⟩, ?_⟩
      refine loop_slots Fa.mix [29] [7, 30, 31, 32, 33, 34, 35, 36, 37, 38, 39, 40, 41, 42] (fun m vs wx => ∃ (j : Nat) (cn : Nat → Nat) (em : Nat → Int → Option Value), j + m = k ∧ vs = [.int .i64 j] ∧ Below w.heap.size w wx ∧ Hp w.heap.size (MObs (upd p tk true) (upd ib tk wy.heap.size) cn em w.heap.size ++ [oBox sb [.int .i64 (K k), .int .i64 (T k), .int .i64 (I k)]]) wx ∧
          (∀ t : Nat, t < 6 → ∀ u, em t u = oneO (edJ K T I k j t u)) ∧ ∀ t, cn t ≤ 100 * k + j) k (by kernel_rfl) rfl
        ⟨0, (upd cn tk 0), (upd em tk fun _ => none), by omega, rfl, (hBy.trans (st.below hF)), st.hp, he2, hcs⟩ ?_
      rintro m2 vs u3 wx ⟨j, cn2, em2, hjm, rfl, hBx, hH, he3, hcn3⟩
      have fs : Box wx sb [.int .i64 (K k), .int .i64 (T k), .int .i64 (I k)] := hH.get 7 rfl
      have b0 := fs.at (i := 0) rfl
      have b1 := fs.at (i := 1) rfl
      have b2 := fs.at (i := 2) rfl
      have hsl := fs.1
      by_cases hj : j < k
      · have e8 : ((j : Int) < k) = True := eq_true (by omega)
        have hc3 := (hr.below hBx) (by omega)
        obtain ⟨b', o', hbo, hb, hc3⟩ := hc3
        cases hbo
        obtain ⟨j1, j2, j3, jf⟩ := hc3 j (by omega)
        have hTj := hT j (by omega)
        obtain ⟨uj, huj⟩ : ∃ uj : Nat, T j = uj := ⟨(T j).toNat, by omega⟩
        have huj6 : uj < 6 := by omega
        simp -dsimp (maxSteps := 2000000) only [Fa.F43, e8, rdI_of j1, j1, rdI_of j2, j2, rdI_of j3, j3, hb, rdI_of b0, b0, rdI_of b1, b1, rdI_of b2, b2, hsl, Int.toNat_natCast, VC.Now, VC.vc, VC.lib, VC.mapN_drewN, VC.mapB_drewN, VC.regQ, VC.loopK, VC.reg, VC.opP, VC.opS, VC.opZ, VC.nomulB, VC.pv, VC.thenF, VC.blkF, VC.retF, VC.resV, VC.oneV, VC.evo, VC.bin, VC.binI, VC.cmpI, VC.arithI, VC.ldv, VC.slv, VC.pickP, VC.holds, VC.chainOf, VC.look, VC.junk, VC.put, VC.eff, VC.callee, VC.pureB, VC.rdK, VC.rdKs, VC.okKs, VC.eqKs, VC.fillL, VC.putL, VC.stW, VC.stOK, VC.mixF, VC.setAll, Nat.reduceAdd, Nat.reduceSub, Nat.reduceMul, if_true, if_false, ↓reduceIte, forall_const, implies_true, reduceCtorEq, ne_eq, Nat.reduceBNe, Nat.reduceBEq, IntKind.signed, Nat.reduceEqDiff, Nat.reduceLeDiff, Nat.reduceLT, eq_self, Int.reduceEq, Int.reduceLT, Int.reduceLE, Int.reduceAdd, Int.reduceSub, VC.regC_nil, VC.regC_cons, VC.regCK_eq, VC.callQ, VC.tailQ, VC.goCall, VC.chStep]
        refine ⟨by omega, ?_⟩
        have bx2 := Box.new wx [.int .i64 (K j), .int .i64 (T j), .int .i64 (I j)] 99
        have hBs2 : Below wx.heap.size wx (wx.alloc (.cells #[.int .i64 (K j), .int .i64 (T j), .int .i64 (I j)] 99)) := (Below.refl _ _).alloc (Nat.le_refl _) _
        refine CALL_of (clash_any (K j) (T j) (I j) (K k) (T k) (I k) _) fun w3 hB3 => ?_
        have hH3 := (hH.below hBs2).below hB3
        have hBy3 := (hBx.trans (hBs2.mono hH.base)).trans (hB3.mono (hH.below hBs2).base)
        have bx3 := bx2.below hB3
        have hcl0 : decide (clP (K j) (T j) (I j) (K k) (T k) (I k)) = clashB K T I j k := by unfold clashB; exact decide_eq_decide.2 Iff.rfl
        rw [hcl0, VC.Now, VC.seqK_eq]
        have hes : ∀ t u, edJ K T I k (j + 1) t u = (edJ K T I k j t u || (decide (T k = t) && (decide (T j = u) && clashB K T I j k))) := fun t u => edJ_succ
        generalize wx.heap.size = sb2 at bx3
        cases hcl : clashB K T I j k with
        | false =>
          simp -dsimp (maxSteps := 2000000) only [Fa.F43, VC.Now, VC.vc, VC.lib, VC.mapN_drewN, VC.mapB_drewN, VC.regQ, VC.loopK, VC.reg, VC.opP, VC.opS, VC.opZ, VC.nomulB, VC.pv, VC.thenF, VC.blkF, VC.retF, VC.resV, VC.oneV, VC.evo, VC.bin, VC.binI, VC.cmpI, VC.arithI, VC.ldv, VC.slv, VC.pickP, VC.holds, VC.chainOf, VC.look, VC.junk, VC.put, VC.eff, VC.callee, VC.pureB, VC.rdK, VC.rdKs, VC.okKs, VC.eqKs, VC.fillL, VC.putL, VC.stW, VC.stOK, VC.mixF, VC.setAll, Nat.reduceAdd, Nat.reduceSub, Nat.reduceMul, if_true, if_false, ↓reduceIte, forall_const, implies_true, reduceCtorEq, ne_eq, Nat.reduceBNe, Nat.reduceBEq, IntKind.signed, Nat.reduceEqDiff, Nat.reduceLeDiff, Nat.reduceLT, eq_self, Int.reduceEq, Int.reduceLT, Int.reduceLE, Int.reduceAdd, Int.reduceSub, VC.regC_nil, VC.regC_cons, VC.regCK_eq, VC.callQ, VC.tailQ, VC.goCall, VC.chStep]
          refine ⟨fits_i64_nat (by omega), SAME.intro (by kernel_rfl), m2 - 1, by omega, j + 1, cn2, em2, by omega, rfl, hBy3, hH3, fun t ht u => ?_, fun t => by have := hcn3 t; omega⟩
          rw [hes, hcl, Bool.and_false, Bool.and_false, Bool.or_false]
          exact he3 t ht u
        | true =>
          have fs3 : Box w3 sb [.int .i64 (K k), .int .i64 (T k), .int .i64 (I k)] := hH3.get 7 rfl
          have b1 := fs3.at (i := 1) rfl
          have hsl := fs3.1
          have c1 := bx3.at (i := 1) rfl
          have hsl2 := bx3.1
          simp -dsimp (maxSteps := 2000000) only [Fa.F43, rdI_of b1, b1, hsl, VC.Now, VC.vc, VC.lib, VC.mapN_drewN, VC.mapB_drewN, VC.regQ, VC.loopK, VC.reg, VC.opP, VC.opS, VC.opZ, VC.nomulB, VC.pv, VC.thenF, VC.blkF, VC.retF, VC.resV, VC.oneV, VC.evo, VC.bin, VC.binI, VC.cmpI, VC.arithI, VC.ldv, VC.slv, VC.pickP, VC.holds, VC.chainOf, VC.look, VC.junk, VC.put, VC.eff, VC.callee, VC.pureB, VC.rdK, VC.rdKs, VC.okKs, VC.eqKs, VC.fillL, VC.putL, VC.stW, VC.stOK, VC.mixF, VC.setAll, Nat.reduceAdd, Nat.reduceSub, Nat.reduceMul, if_true, if_false, ↓reduceIte, forall_const, implies_true, reduceCtorEq, ne_eq, Nat.reduceBNe, Nat.reduceBEq, IntKind.signed, Nat.reduceEqDiff, Nat.reduceLeDiff, Nat.reduceLT, eq_self, Int.reduceEq, Int.reduceLT, Int.reduceLE, Int.reduceAdd, Int.reduceSub, VC.regC_nil, VC.regC_cons, VC.regCK_eq, VC.callQ, VC.tailQ, VC.goCall, VC.chStep]
          refine OPW_lookV (x := (tk : Int)) (z := .map none) (v := .map (some ((upd ib tk wy.heap.size) tk))) (MObs.out hH3.left) rfl (by kernel_rfl) rfl (by rw [← htk]; rfl) (EI_ok tk htk6) (by rw [outM_at htk6, if_pos hpk]; rfl) ?_
          rw [VC.Now, VC.seqK_eq]
          simp -dsimp (maxSteps := 2000000) only [Fa.F43, rdI_of c1, c1, hsl2, VC.Now, VC.vc, VC.lib, VC.mapN_drewN, VC.mapB_drewN, VC.regQ, VC.loopK, VC.reg, VC.opP, VC.opS, VC.opZ, VC.nomulB, VC.pv, VC.thenF, VC.blkF, VC.retF, VC.resV, VC.oneV, VC.evo, VC.bin, VC.binI, VC.cmpI, VC.arithI, VC.ldv, VC.slv, VC.pickP, VC.holds, VC.chainOf, VC.look, VC.junk, VC.put, VC.eff, VC.callee, VC.pureB, VC.rdK, VC.rdKs, VC.okKs, VC.eqKs, VC.fillL, VC.putL, VC.stW, VC.stOK, VC.mixF, VC.setAll, Nat.reduceAdd, Nat.reduceSub, Nat.reduceMul, if_true, if_false, ↓reduceIte, forall_const, implies_true, reduceCtorEq, ne_eq, Nat.reduceBNe, Nat.reduceBEq, IntKind.signed, Nat.reduceEqDiff, Nat.reduceLeDiff, Nat.reduceLT, eq_self, Int.reduceEq, Int.reduceLT, Int.reduceLE, Int.reduceAdd, Int.reduceSub, VC.regC_nil, VC.regC_cons, VC.regCK_eq, VC.callQ, VC.tailQ, VC.goCall, VC.chStep]
          have hMi := MObs.inn hH3.left htk6 hpk
          have hcnk := hcn3 tk
          refine OPW_updV (x := (uj : Int)) (c := .int .i64 1) hMi rfl (by kernel_rfl) rfl (by rw [← huj]; rfl) rfl (EI_ok uj huj6) (by unfold maxLen; omega) fun w5 hM5 ht5 => ?_
          have st := (MObs.turn hH3.left htk6 hpk hM5 ht5).part hH3
          rw [VC.Now, VC.seqK_eq]
          simp -dsimp (maxSteps := 2000000) only [Fa.F43, VC.Now, VC.vc, VC.lib, VC.mapN_drewN, VC.mapB_drewN, VC.regQ, VC.loopK, VC.reg, VC.opP, VC.opS, VC.opZ, VC.nomulB, VC.pv, VC.thenF, VC.blkF, VC.retF, VC.resV, VC.oneV, VC.evo, VC.bin, VC.binI, VC.cmpI, VC.arithI, VC.ldv, VC.slv, VC.pickP, VC.holds, VC.chainOf, VC.look, VC.junk, VC.put, VC.eff, VC.callee, VC.pureB, VC.rdK, VC.rdKs, VC.okKs, VC.eqKs, VC.fillL, VC.putL, VC.stW, VC.stOK, VC.mixF, VC.setAll, Nat.reduceAdd, Nat.reduceSub, Nat.reduceMul, if_true, if_false, ↓reduceIte, forall_const, implies_true, reduceCtorEq, ne_eq, Nat.reduceBNe, Nat.reduceBEq, IntKind.signed, Nat.reduceEqDiff, Nat.reduceLeDiff, Nat.reduceLT, eq_self, Int.reduceEq, Int.reduceLT, Int.reduceLE, Int.reduceAdd, Int.reduceSub, VC.regC_nil, VC.regC_cons, VC.regCK_eq, VC.callQ, VC.tailQ, VC.goCall, VC.chStep]
          refine ⟨fits_i64_nat (by omega), SAME.intro (by kernel_rfl), m2 - 1, by omega, j + 1, _, _, by omega, rfl, hBy3.trans (st.below hH3), st.hp, fun t ht u => ?_, fun t => ?_⟩
          · rw [hes, hcl, Bool.and_true]
            by_cases e : t = tk
            · subst e
              rw [upd_same, htk, decide_eq_true rfl, Bool.true_and]
              by_cases e2 : u = uj
              · subst e2; rw [updV_same, huj, decide_eq_true rfl, Bool.or_true]; rfl
              · rw [updV_other e2, he3 t ht u, decide_eq_false (by omega), Bool.or_false]
            · rw [upd_other e, he3 t ht u, decide_eq_false (by omega), Bool.false_and, Bool.or_false]
          · by_cases e : t = tk
            · subst e
              rw [upd_same]
              split <;> omega
            · rw [upd_other e]
              have := hcn3 t
              omega
      · obtain rfl : j = k := by omega
        have e8 : ((j : Int) < j) = False := eq_false (by omega)
        simp -dsimp (maxSteps := 2000000) only [Fa.F43, e8, VC.Now, VC.vc, VC.lib, VC.mapN_drewN, VC.mapB_drewN, VC.regQ, VC.loopK, VC.reg, VC.opP, VC.opS, VC.opZ, VC.nomulB, VC.pv, VC.thenF, VC.blkF, VC.retF, VC.resV, VC.oneV, VC.evo, VC.bin, VC.binI, VC.cmpI, VC.arithI, VC.ldv, VC.slv, VC.pickP, VC.holds, VC.chainOf, VC.look, VC.junk, VC.put, VC.eff, VC.callee, VC.pureB, VC.rdK, VC.rdKs, VC.okKs, VC.eqKs, VC.fillL, VC.putL, VC.stW, VC.stOK, VC.mixF, VC.setAll, Nat.reduceAdd, Nat.reduceSub, Nat.reduceMul, if_true, if_false, ↓reduceIte, forall_const, implies_true, reduceCtorEq, ne_eq, Nat.reduceBNe, Nat.reduceBEq, IntKind.signed, Nat.reduceEqDiff, Nat.reduceLeDiff, Nat.reduceLT, eq_self, Int.reduceEq, Int.reduceLT, Int.reduceLE, Int.reduceAdd, Int.reduceSub, VC.regC_nil, VC.regC_cons, VC.regCK_eq, VC.callQ, VC.tailQ, VC.goCall, VC.chStep]
        exact ⟨fits_i64_nat (by omega), SAME.intro (by kernel_rfl), m - 1, by omega, j + 1, (upd p tk true), (upd ib tk wy.heap.size), cn2, em2, by omega, rfl, hBx, hH.left, hp2, fun t ht u => by rw [he3 t ht u, edJ_all], fun t => by have := hcn3 t; omega⟩
  · obtain rfl : k = len := by omega
    have e7 : ((k : Int) < k) = False := eq_false (by omega)
    simp -dsimp (maxSteps := 2000000) only [Fa.F43, e7, VC.Now, VC.vc, VC.lib, VC.mapN_drewN, VC.mapB_drewN, VC.regQ, VC.loopK, VC.reg, VC.opP, VC.opS, VC.opZ, VC.nomulB, VC.pv, VC.thenF, VC.blkF, VC.retF, VC.resV, VC.oneV, VC.evo, VC.bin, VC.binI, VC.cmpI, VC.arithI, VC.ldv, VC.slv, VC.pickP, VC.holds, VC.chainOf, VC.look, VC.junk, VC.put, VC.eff, VC.callee, VC.pureB, VC.rdK, VC.rdKs, VC.okKs, VC.eqKs, VC.fillL, VC.putL, VC.stW, VC.stOK, VC.mixF, VC.setAll, Nat.reduceAdd, Nat.reduceSub, Nat.reduceMul, if_true, if_false, ↓reduceIte, forall_const, implies_true, reduceCtorEq, ne_eq, Nat.reduceBNe, Nat.reduceBEq, IntKind.signed, Nat.reduceEqDiff, Nat.reduceLeDiff, Nat.reduceLT, eq_self, Int.reduceEq, Int.reduceLT, Int.reduceLE, Int.reduceAdd, Int.reduceSub, VC.regC_nil, VC.regC_cons, VC.regCK_eq, VC.callQ, VC.tailQ, VC.goCall, VC.chStep]
    exact ⟨_, rfl, ⟨p, ib, cn, em, w.heap.size, rfl, hH, hp, he⟩, hBx⟩
end Go.Proofs.Ytelfmhiaafkimaa
