/- A choice, the document's: a ballot of a list; how many have vowed. -/
import Derived.Test.YtelfmhiaafkimaaPaxD1
namespace Go.Proofs.Ytelfmhiaafkimaa
open Go Go.RowKit Go.VC
set_option linter.unusedSimpArgs false
set_option linter.unusedVariables false
abbrev balV (x : Bal) : Value := .agg #[.int .i64 x.n, .int .i64 x.v]
theorem ofL_take {l : List Bal} {b : Int} {k : Nat} (hk : k < l.length) (h : ofL (l.take k) b = none) : ofL (l.take (k + 1)) b = if (l.getD k bal0).n = b then some (l.getD k bal0) else none := by
  rw [take_last hk bal0, ofL_snoc, h, Option.none_or]
theorem ofL_some {l : List Bal} {b : Int} {k : Nat} {x : Bal} (h : ofL (l.take k) b = some x) : ofL l b = some x := by
  have e : l = l.take k ++ l.drop k := (List.take_append_drop k l).symm
  unfold ofL at h ⊢
  rw [e, List.find?_append, h]; rfl
section
variable {w : World} {A : Option Addr} {c : Nat}

set_option maxRecDepth 8000 in
set_option maxHeartbeats 4000000 in
theorem of_any {l : List Bal} (hr : RdT w A l.length 2 (fun i => bL (l.getD i bal0))) (hl : l.length ≤ 1000) (x : Int) :
    Calls Try.prog 86 #[.slice A l.length c, .int .i64 x] w fun e w' => e = .returned (.tuple #[balV ((ofL l x).getD bal0), .bool (ofL l x).isSome]) ∧ Below w.heap.size w w' := by
  refine calls_vc (rs := [.cell 4 117, .tmp 5]) Fa.mix Try.func86 rfl Try.ntmps86 rfl (by kernel_rfl) (Nat.le_of_ble_eq_true rfl) ?_
  (repeat rw [vc_seq]); refine vc_plain _ fun Q hQ => ?_; simp -dsimp only [Fa.F86, VC.Now, VC.vc_skip, VC.vc_ret, VC.vc_exit, VC.vc_block, VC.vc_cond, VC.vc_region, VC.lib, VC.mapN_drewN, VC.mapB_drewN, VC.regQ, VC.loopK, VC.reg, VC.opP, VC.pv, VC.thenF, VC.blkF, VC.retF, VC.resV, VC.oneV, VC.evo, VC.bin, VC.binI, VC.cmpI, VC.arithI, VC.ldv, VC.slv, VC.pickP, VC.holds, VC.chainOf, VC.look, VC.junk, VC.put, VC.eff, VC.callee, VC.pureB, VC.rdK, VC.rdKs, VC.okKs, VC.eqKs, VC.fillL, VC.putL, VC.stW, VC.stOK, VC.mixF, VC.setAll, Nat.reduceAdd, Nat.reduceSub, Nat.reduceMul, if_true, if_false, ↓reduceIte, forall_const, implies_true, reduceCtorEq, ne_eq, Nat.reduceBNe, Nat.reduceBEq, IntKind.signed, Nat.reduceEqDiff, Nat.reduceLeDiff, Nat.reduceLT, eq_self, Int.reduceEq, Int.reduceLT, Int.reduceLE, Int.reduceAdd, Int.reduceSub, VC.regC_nil, VC.regC_cons, VC.regCK_eq, VC.callQ, VC.tailQ, VC.goCall, VC.chStep]
  have st0 := (Hp.nil (B := w.heap.size) (Nat.le_refl _)).st_add (o := oBox w.heap.size (bL bal0)) ((Below.refl _ w).alloc (Nat.le_refl _) (.cells (bL bal0).toArray 117)) (Box.new w _ _) (fun g hg => by cases hg; exact Nat.le_refl _)
  have hB0 : Below w.heap.size w (w.alloc (.cells (bL bal0).toArray 117)) := (Below.refl _ w).alloc (Nat.le_refl _) _
  change Q _ _ (w.alloc (.cells (bL bal0).toArray 117))
  generalize w.alloc (.cells (bL bal0).toArray 117) = w1 at st0 hB0 ⊢
  have hH := st0.hp
  clear st0
  generalize hrb : w.heap.size = rb at hH hB0 ⊢
  subst hQ
  simp -dsimp only [Fa.F86, VC.Now, VC.vc, VC.lib, VC.mapN_drewN, VC.mapB_drewN, VC.regQ, VC.loopK, VC.reg, VC.opP, VC.pv, VC.thenF, VC.blkF, VC.retF, VC.resV, VC.oneV, VC.evo, VC.bin, VC.binI, VC.cmpI, VC.arithI, VC.ldv, VC.slv, VC.pickP, VC.holds, VC.chainOf, VC.look, VC.junk, VC.put, VC.eff, VC.callee, VC.pureB, VC.rdK, VC.rdKs, VC.okKs, VC.eqKs, VC.fillL, VC.putL, VC.stW, VC.stOK, VC.mixF, VC.setAll, Nat.reduceAdd, Nat.reduceSub, Nat.reduceMul, if_true, if_false, ↓reduceIte, forall_const, implies_true, reduceCtorEq, ne_eq, Nat.reduceBNe, Nat.reduceBEq, IntKind.signed, Nat.reduceEqDiff, Nat.reduceLeDiff, Nat.reduceLT, eq_self, Int.reduceEq, Int.reduceLT, Int.reduceLE, Int.reduceAdd, Int.reduceSub, VC.regC_nil, VC.regC_cons, VC.regCK_eq, VC.callQ, VC.tailQ, VC.goCall, VC.chStep]
  refine loop_slots Fa.mix [10] [5, 7, 11, 12, 13, 14, 15, 16, 17, 18, 19] (fun m vs wx => ∃ k : Nat, k + m = l.length ∧ vs = [.int .i64 k] ∧ Below rb w wx ∧ ofL (l.take k) x = none ∧ Hp rb [oBox rb (bL bal0)] wx) l.length (by kernel_rfl) rfl
    ⟨0, by omega, rfl, hB0, rfl, hH⟩ ?_
  clear hH hB0
  rintro m vs u wx ⟨k, hkm, rfl, hBx, hno, hH⟩
  by_cases hk : k < l.length
  · obtain ⟨b, o, rfl, hb, hc⟩ := (hr.below (by rw [hrb]; exact hBx)) (by omega)
    have c0 := hc k hk 0 _ rfl
    have c1 := hc k hk 1 _ rfl
    simp only [Nat.add_zero] at c0
    have e7 : ((k : Int) < l.length) = True := eq_true (by omega)
    have htk := ofL_take hk hno
    generalize l.getD k bal0 = y at *
    have hBs : Below wx.heap.size wx (wx.alloc (.cells (bL y).toArray 117)) := (Below.refl _ _).alloc (Nat.le_refl _) _
    have hHy := hH.below hBs
    have hBy : Below rb w (wx.alloc (.cells (bL y).toArray 117)) := hBx.trans (hBs.mono hH.base)
    by_cases q1 : y.n = x
    · have e1 := eq_true q1
      rw [if_pos q1] at htk
      have hof : ofL l x = some y := ofL_some htk
      have byy : Box (wx.alloc (.cells (bL y).toArray 117)) rb (bL bal0) := hHy.get 0 rfl
      have st3 := (hHy.setBox 0 rfl 0 (.int .i64 y.n)).trans ((hHy.setBox 0 rfl 0 (.int .i64 y.n)).hp.setBox 0 rfl 1 (.int .i64 y.v))
      have g0 := byy.at (i := 0) rfl
      have g1 := byy.at (i := 1) rfl
      have f0 := byy.soft (i := 0) (by show 0 < 2; omega)
      have f1 := byy.soft (i := 1) (by show 1 < 2; omega)
      have bz : Box _ rb (bL y) := st3.hp.get 0 rfl
      have r0 := bz.at (i := 0) rfl
      have r1 := bz.at (i := 1) rfl
      simp -dsimp only [Fa.F86, e7, e1, rdI_of c0, c0, rdI_of c1, c1, hb, Int.toNat_natCast, g0, g1, f0, f1, rdI_of r0, r0, rdI_of r1, r1, VC.Now, VC.vc, VC.lib, VC.mapN_drewN, VC.mapB_drewN, VC.regQ, VC.loopK, VC.reg, VC.opP, VC.pv, VC.thenF, VC.blkF, VC.retF, VC.resV, VC.oneV, VC.evo, VC.bin, VC.binI, VC.cmpI, VC.arithI, VC.ldv, VC.slv, VC.pickP, VC.holds, VC.chainOf, VC.look, VC.junk, VC.put, VC.eff, VC.callee, VC.pureB, VC.rdK, VC.rdKs, VC.okKs, VC.eqKs, VC.fillL, VC.putL, VC.stW, VC.stOK, VC.mixF, VC.setAll, Nat.reduceAdd, Nat.reduceSub, Nat.reduceMul, if_true, if_false, ↓reduceIte, forall_const, implies_true, reduceCtorEq, ne_eq, Nat.reduceBNe, Nat.reduceBEq, IntKind.signed, Nat.reduceEqDiff, Nat.reduceLeDiff, Nat.reduceLT, eq_self, Int.reduceEq, Int.reduceLT, Int.reduceLE, Int.reduceAdd, Int.reduceSub, VC.regC_nil, VC.regC_cons, VC.regCK_eq, VC.callQ, VC.tailQ, VC.goCall, VC.chStep]
      rw [hof]
      exact ⟨by omega, rfl, by rw [hrb]; exact hBy.trans (st3.below hHy)⟩
    · have e1 := eq_false q1
      rw [if_neg q1] at htk
      simp -dsimp only [Fa.F86, e7, e1, rdI_of c0, c0, rdI_of c1, c1, hb, Int.toNat_natCast, VC.Now, VC.vc, VC.lib, VC.mapN_drewN, VC.mapB_drewN, VC.regQ, VC.loopK, VC.reg, VC.opP, VC.pv, VC.thenF, VC.blkF, VC.retF, VC.resV, VC.oneV, VC.evo, VC.bin, VC.binI, VC.cmpI, VC.arithI, VC.ldv, VC.slv, VC.pickP, VC.holds, VC.chainOf, VC.look, VC.junk, VC.put, VC.eff, VC.callee, VC.pureB, VC.rdK, VC.rdKs, VC.okKs, VC.eqKs, VC.fillL, VC.putL, VC.stW, VC.stOK, VC.mixF, VC.setAll, Nat.reduceAdd, Nat.reduceSub, Nat.reduceMul, if_true, if_false, ↓reduceIte, forall_const, implies_true, reduceCtorEq, ne_eq, Nat.reduceBNe, Nat.reduceBEq, IntKind.signed, Nat.reduceEqDiff, Nat.reduceLeDiff, Nat.reduceLT, eq_self, Int.reduceEq, Int.reduceLT, Int.reduceLE, Int.reduceAdd, Int.reduceSub, VC.regC_nil, VC.regC_cons, VC.regCK_eq, VC.callQ, VC.tailQ, VC.goCall, VC.chStep]
      exact ⟨by omega, fits_i64 (by omega) (by omega), SAME.intro (by kernel_rfl), m - 1, by omega, k + 1, by omega, rfl, hBy, htk, hHy⟩
  · obtain rfl : k = l.length := by omega
    have e7 : ((l.length : Int) < l.length) = False := eq_false (by omega)
    rw [List.take_length] at hno
    obtain ⟨ok, st3⟩ := hH.allBox 0 rfl (vs := [.int .i64 0, .int .i64 0]) rfl (by intro v hv; simp at hv; rcases hv with rfl | rfl <;> rfl)
    have br : Box _ rb [.int .i64 0, .int .i64 0] := st3.hp.get 0 rfl
    have r0 := br.at (i := 0) rfl
    have r1 := br.at (i := 1) rfl
    simp -dsimp only [Fa.F86, e7, rdI_of r0, r0, rdI_of r1, r1, VC.Now, VC.vc, VC.lib, VC.mapN_drewN, VC.mapB_drewN, VC.regQ, VC.loopK, VC.reg, VC.opP, VC.pv, VC.thenF, VC.blkF, VC.retF, VC.resV, VC.oneV, VC.evo, VC.bin, VC.binI, VC.cmpI, VC.arithI, VC.ldv, VC.slv, VC.pickP, VC.holds, VC.chainOf, VC.look, VC.junk, VC.put, VC.eff, VC.callee, VC.pureB, VC.rdK, VC.rdKs, VC.okKs, VC.eqKs, VC.fillL, VC.putL, VC.mixF, VC.setAll, Nat.reduceAdd, Nat.reduceSub, Nat.reduceMul, if_true, if_false, ↓reduceIte, forall_const, implies_true, reduceCtorEq, ne_eq, Nat.reduceBNe, Nat.reduceBEq, IntKind.signed, Nat.reduceEqDiff, Nat.reduceLeDiff, Nat.reduceLT, eq_self, Int.reduceEq, Int.reduceLT, Int.reduceLE, Int.reduceAdd, Int.reduceSub, VC.regC_nil, VC.regC_cons, VC.regCK_eq, VC.callQ, VC.tailQ, VC.goCall, VC.chStep]
    rw [hno]
    exact ⟨ok, rfl, by rw [hrb]; exact hBx.trans (st3.below hH)⟩

set_option maxRecDepth 8000 in
set_option maxHeartbeats 4000000 in
theorem voters_any {l : List Vow} (hr : RdT w A l.length 4 (fun i => vowL (l.getD i vow0))) (hl : l.length ≤ 1000) (x : Int) :
    Calls Try.prog 87 #[.slice A l.length c, .int .i64 x] w fun e w' => e = .returned (.int .i64 ((voL l x).length : Nat)) ∧ Below w.heap.size w w' := by
  refine calls_vc (rs := [.tmp 4]) Fa.mix Try.func87 rfl Try.ntmps87 rfl (by kernel_rfl) (Nat.le_of_ble_eq_true rfl) ?_
  simp -dsimp only [Fa.F87, VC.Now, VC.vc, VC.lib, VC.mapN_drewN, VC.mapB_drewN, VC.regQ, VC.loopK, VC.reg, VC.opP, VC.pv, VC.thenF, VC.blkF, VC.retF, VC.resV, VC.oneV, VC.evo, VC.bin, VC.binI, VC.cmpI, VC.arithI, VC.ldv, VC.slv, VC.pickP, VC.holds, VC.chainOf, VC.look, VC.junk, VC.put, VC.eff, VC.callee, VC.pureB, VC.rdK, VC.rdKs, VC.okKs, VC.eqKs, VC.fillL, VC.putL, VC.stW, VC.stOK, VC.mixF, VC.setAll, Nat.reduceAdd, Nat.reduceSub, Nat.reduceMul, if_true, if_false, ↓reduceIte, forall_const, implies_true, reduceCtorEq, ne_eq, Nat.reduceBNe, Nat.reduceBEq, IntKind.signed, Nat.reduceEqDiff, Nat.reduceLeDiff, Nat.reduceLT, eq_self, Int.reduceEq, Int.reduceLT, Int.reduceLE, Int.reduceAdd, Int.reduceSub, VC.regC_nil, VC.regC_cons, VC.regCK_eq, VC.callQ, VC.tailQ, VC.goCall, VC.chStep]
  have hvl : ∀ k, (voL (l.take k) x).length ≤ k := fun k => by
    induction k with
    | zero => exact Nat.le_refl _
    | succ k ih =>
      by_cases hk : k < l.length
      · rw [take_last hk vow0, voL_snoc]; unfold voF; split
        · rw [List.length_append]; show _ + 1 ≤ _; omega
        · omega
      · rw [List.take_of_length_le (by omega)]
        rw [List.take_of_length_le (by omega)] at ih
        omega
  generalize hrb : w.heap.size = rb
  refine loop_slots Fa.mix [5, 10] [7, 11, 12, 13, 14, 15, 16, 17, 18, 19, 20, 21, 22, 23, 24, 25, 26, 27, 28, 29, 30] (fun m vs wx => ∃ (k : Nat) (v : Value), k + m = l.length ∧ vs = [v, .int .i64 k] ∧ Below rb w wx ∧ OwnK wx rb 3 1 (voL (l.take k) x).length v ((voL (l.take k) x).map (Value.int .i64))) l.length (by kernel_rfl) rfl
    ⟨0, _, by omega, rfl, hrb ▸ Below.refl _ _, OwnK.nil _ _ _ _⟩ ?_
  rintro m vs u wx ⟨k, v, hkm, rfl, hBx, ho⟩
  obtain ⟨A0, c0, rfl, _⟩ := id ho
  by_cases hk : k < l.length
  · obtain ⟨b, o, rfl, hb, hc⟩ := (hr.below (by rw [hrb]; exact hBx)) (by omega)
    have s0 := hc k hk 0 _ rfl
    have s1 := hc k hk 1 _ rfl
    have s2 := hc k hk 2 _ rfl
    have s3 := hc k hk 3 _ rfl
    simp only [Nat.add_zero] at s0
    have e7 : ((k : Int) < l.length) = True := eq_true (by omega)
    have hvk := hvl k
    have htk : voL (l.take (k + 1)) x = voF x (voL (l.take k) x) (l.getD k vow0) := by rw [take_last hk vow0, voL_snoc]
    generalize l.getD k vow0 = y at *
    generalize voL (l.take k) x = z at *
    have hBs : Below wx.heap.size wx (wx.alloc (.cells (vowL y).toArray 258)) := (Below.refl _ _).alloc (Nat.le_refl _) _
    have hBy : Below rb w (wx.alloc (.cells (vowL y).toArray 258)) := hBx.trans (hBs.mono (by rw [← hrb]; exact hBx.size))
    have ho2 := ho.below hBs
    by_cases q1 : y.b = x
    · have e1 := eq_true q1
      simp -dsimp only [Fa.F87, e7, e1, rdI_of s0, s0, rdI_of s1, s1, rdI_of s2, s2, rdI_of s3, s3, hb, Int.toNat_natCast, undef, tu, uf, ul, ur, VC.Now, VC.vc, VC.lib, VC.mapN_drewN, VC.mapB_drewN, VC.regQ, VC.loopK, VC.reg, VC.opP, VC.pv, VC.thenF, VC.blkF, VC.retF, VC.resV, VC.oneV, VC.evo, VC.bin, VC.binI, VC.cmpI, VC.arithI, VC.ldv, VC.slv, VC.pickP, VC.holds, VC.chainOf, VC.look, VC.junk, VC.put, VC.eff, VC.callee, VC.pureB, VC.rdK, VC.rdKs, VC.okKs, VC.eqKs, VC.fillL, VC.putL, VC.stW, VC.stOK, VC.mixF, VC.setAll, Nat.reduceAdd, Nat.reduceSub, Nat.reduceMul, if_true, if_false, ↓reduceIte, forall_const, implies_true, reduceCtorEq, ne_eq, Nat.reduceBNe, Nat.reduceBEq, IntKind.signed, Nat.reduceEqDiff, Nat.reduceLeDiff, Nat.reduceLT, eq_self, Int.reduceEq, Int.reduceLT, Int.reduceLE, Int.reduceAdd, Int.reduceSub, VC.regC_nil, VC.regC_cons, VC.regCK_eq, VC.callQ, VC.tailQ, VC.goCall, VC.chStep]
      change 0 ≤ (k : Int) ∧ CALL _ _ _ (wx.alloc (.cells (vowL y).toArray 258)) _
      generalize hbb : wx.heap.size = sb at *
      have hby : Box (wx.alloc (.cells (vowL y).toArray 258)) sb (vowL y) := hbb ▸ Box.new wx _ _
      generalize wx.alloc (.cells (vowL y).toArray 258) = wy at ho2 hBy hby ⊢
      refine ⟨by omega, ?_⟩
      refine CALL_of (has_any A0 c0 z y.who wy ho2.rd.2 (by omega)) fun w3 hw3 => ?_
      subst hw3
      rw [VC.Now, VC.seqK_eq]
      have y1 := hby.at (i := 1) rfl
      have hsl := hby.1
      by_cases q2 : y.who ∈ z
      · have e2 := decide_eq_true q2
        have hz : voF x z y = z := if_neg fun h => h.2 q2
        rw [hz] at htk
        simp -dsimp only [Fa.F87, e2, rdI_of y1, y1, hsl, undef, tu, uf, ul, ur, VC.Now, VC.vc, VC.lib, VC.mapN_drewN, VC.mapB_drewN, VC.regQ, VC.loopK, VC.reg, VC.opP, VC.pv, VC.thenF, VC.blkF, VC.retF, VC.resV, VC.oneV, VC.evo, VC.bin, VC.binI, VC.cmpI, VC.arithI, VC.ldv, VC.slv, VC.pickP, VC.holds, VC.chainOf, VC.look, VC.junk, VC.put, VC.eff, VC.callee, VC.pureB, VC.rdK, VC.rdKs, VC.okKs, VC.eqKs, VC.fillL, VC.putL, VC.stW, VC.stOK, VC.mixF, VC.setAll, Nat.reduceAdd, Nat.reduceSub, Nat.reduceMul, if_true, if_false, ↓reduceIte, forall_const, implies_true, reduceCtorEq, ne_eq, Nat.reduceBNe, Nat.reduceBEq, IntKind.signed, Nat.reduceEqDiff, Nat.reduceLeDiff, Nat.reduceLT, eq_self, Int.reduceEq, Int.reduceLT, Int.reduceLE, Int.reduceAdd, Int.reduceSub, VC.regC_nil, VC.regC_cons, VC.regCK_eq, VC.callQ, VC.tailQ, VC.goCall, VC.chStep]
        refine ⟨fits_i64_nat (by omega), SAME.intro (by kernel_rfl), m - 1, by omega, k + 1, _, by omega, rfl, hBy, ?_⟩
        rw [htk]; exact ho2
      · have e2 := decide_eq_false q2
        have hz : voF x z y = z ++ [y.who] := if_pos ⟨q1, q2⟩
        rw [hz] at htk
        simp -dsimp only [Fa.F87, e2, rdI_of y1, y1, hsl, undef, tu, uf, ul, ur, VC.Now, VC.vc, VC.lib, VC.mapN_drewN, VC.mapB_drewN, VC.regQ, VC.loopK, VC.reg, VC.opP, VC.pv, VC.thenF, VC.blkF, VC.retF, VC.resV, VC.oneV, VC.evo, VC.bin, VC.binI, VC.cmpI, VC.arithI, VC.ldv, VC.slv, VC.pickP, VC.holds, VC.chainOf, VC.look, VC.junk, VC.put, VC.eff, VC.callee, VC.pureB, VC.rdK, VC.rdKs, VC.okKs, VC.eqKs, VC.fillL, VC.putL, VC.stW, VC.stOK, VC.mixF, VC.setAll, Nat.reduceAdd, Nat.reduceSub, Nat.reduceMul, if_true, if_false, ↓reduceIte, forall_const, implies_true, reduceCtorEq, ne_eq, Nat.reduceBNe, Nat.reduceBEq, IntKind.signed, Nat.reduceEqDiff, Nat.reduceLeDiff, Nat.reduceLT, eq_self, Int.reduceEq, Int.reduceLT, Int.reduceLE, Int.reduceAdd, Int.reduceSub, VC.regC_nil, VC.regC_cons, VC.regCK_eq, VC.callQ, VC.tailQ, VC.goCall, VC.chStep]
        refine OPW_appK (v := .slice A0 z.length c0) rfl Fa.apI23 rfl rfl rfl (by simp [Value.oneCell']) ho2 (by have := hBy.size; omega) (by omega) (by decide) fun v5 w5 ho5 hg5 hst5 => ?_
        have hB5 : Below rb w w5 := hBy.grown hg5 (by have := hBy.size; omega) fun j hj => (ho2.lt hj).1
        obtain ⟨A5, c5, rfl, _⟩ := id ho5
        rw [VC.Now, VC.seqK_eq]
        simp -dsimp only [Fa.F87, e2, rdI_of y1, y1, hsl, undef, tu, uf, ul, ur, VC.Now, VC.vc, VC.lib, VC.mapN_drewN, VC.mapB_drewN, VC.regQ, VC.loopK, VC.reg, VC.opP, VC.pv, VC.thenF, VC.blkF, VC.retF, VC.resV, VC.oneV, VC.evo, VC.bin, VC.binI, VC.cmpI, VC.arithI, VC.ldv, VC.slv, VC.pickP, VC.holds, VC.chainOf, VC.look, VC.junk, VC.put, VC.eff, VC.callee, VC.pureB, VC.rdK, VC.rdKs, VC.okKs, VC.eqKs, VC.fillL, VC.putL, VC.stW, VC.stOK, VC.mixF, VC.setAll, Nat.reduceAdd, Nat.reduceSub, Nat.reduceMul, if_true, if_false, ↓reduceIte, forall_const, implies_true, reduceCtorEq, ne_eq, Nat.reduceBNe, Nat.reduceBEq, IntKind.signed, Nat.reduceEqDiff, Nat.reduceLeDiff, Nat.reduceLT, eq_self, Int.reduceEq, Int.reduceLT, Int.reduceLE, Int.reduceAdd, Int.reduceSub, VC.regC_nil, VC.regC_cons, VC.regCK_eq, VC.callQ, VC.tailQ, VC.goCall, VC.chStep]
        refine ⟨fits_i64_nat (by omega), SAME.intro (by kernel_rfl), m - 1, by omega, k + 1, _, by omega, rfl, hB5, ?_⟩
        rw [htk, List.map_append, List.length_append]; exact ho5
    · have e1 := eq_false q1
      have hz : voF x z y = z := if_neg fun h => q1 h.1
      rw [hz] at htk
      simp -dsimp only [Fa.F87, e7, e1, rdI_of s0, s0, rdI_of s1, s1, rdI_of s2, s2, rdI_of s3, s3, hb, Int.toNat_natCast, undef, tu, uf, ul, ur, VC.Now, VC.vc, VC.lib, VC.mapN_drewN, VC.mapB_drewN, VC.regQ, VC.loopK, VC.reg, VC.opP, VC.pv, VC.thenF, VC.blkF, VC.retF, VC.resV, VC.oneV, VC.evo, VC.bin, VC.binI, VC.cmpI, VC.arithI, VC.ldv, VC.slv, VC.pickP, VC.holds, VC.chainOf, VC.look, VC.junk, VC.put, VC.eff, VC.callee, VC.pureB, VC.rdK, VC.rdKs, VC.okKs, VC.eqKs, VC.fillL, VC.putL, VC.stW, VC.stOK, VC.mixF, VC.setAll, Nat.reduceAdd, Nat.reduceSub, Nat.reduceMul, if_true, if_false, ↓reduceIte, forall_const, implies_true, reduceCtorEq, ne_eq, Nat.reduceBNe, Nat.reduceBEq, IntKind.signed, Nat.reduceEqDiff, Nat.reduceLeDiff, Nat.reduceLT, eq_self, Int.reduceEq, Int.reduceLT, Int.reduceLE, Int.reduceAdd, Int.reduceSub, VC.regC_nil, VC.regC_cons, VC.regCK_eq, VC.callQ, VC.tailQ, VC.goCall, VC.chStep]
      refine ⟨by omega, fits_i64_nat (by omega), SAME.intro (by kernel_rfl), m - 1, by omega, k + 1, _, by omega, rfl, hBy, ?_⟩
      rw [htk]; exact ho2
  · obtain rfl : k = l.length := by omega
    have e7 : ((l.length : Int) < l.length) = False := eq_false (by omega)
    rw [List.take_length] at *
    simp -dsimp only [Fa.F87, e7, VC.Now, VC.vc, VC.lib, VC.mapN_drewN, VC.mapB_drewN, VC.regQ, VC.loopK, VC.reg, VC.opP, VC.pv, VC.thenF, VC.blkF, VC.retF, VC.resV, VC.oneV, VC.evo, VC.bin, VC.binI, VC.cmpI, VC.arithI, VC.ldv, VC.slv, VC.pickP, VC.holds, VC.chainOf, VC.look, VC.junk, VC.put, VC.eff, VC.callee, VC.pureB, VC.rdK, VC.rdKs, VC.okKs, VC.eqKs, VC.fillL, VC.putL, VC.stW, VC.stOK, VC.mixF, VC.setAll, Nat.reduceAdd, Nat.reduceSub, Nat.reduceMul, if_true, if_false, ↓reduceIte, forall_const, implies_true, reduceCtorEq, ne_eq, Nat.reduceBNe, Nat.reduceBEq, IntKind.signed, Nat.reduceEqDiff, Nat.reduceLeDiff, Nat.reduceLT, eq_self, Int.reduceEq, Int.reduceLT, Int.reduceLE, Int.reduceAdd, Int.reduceSub, VC.regC_nil, VC.regC_cons, VC.regCK_eq, VC.callQ, VC.tailQ, VC.goCall, VC.chStep]
    exact hBx
end
end Go.Proofs.Ytelfmhiaafkimaa
