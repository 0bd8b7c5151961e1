/- One word for all: the program's script. -/
import Derived.Test.YtelfmhiaafkimaaBra5
import Derived.Test.YtelfmhiaafkimaaDelMsg
namespace Go.Proofs.Ytelfmhiaafkimaa
open Go Go.RowKit Go.VC
set_option linter.unusedSimpArgs false
set_option linter.unusedVariables false
theorem hp_right {B : Nat} {L M : List Ob} {w : World} (h : Hp B (M ++ L) w) : Hp B L w := h.sub (List.sublist_append_right _ _)
abbrev z5 : List Value := [nilS, nilS, nilS, iV 0, iV 0]
noncomputable abbrev bcodes (n f liars sender : Nat) (g : Nat → SprC) (k : Nat) : List Value := (List.range k).map fun i => Value.int .i64 (bcode n f liars sender g i)
theorem bcodes_succ (n f liars sender : Nat) (g : Nat → SprC) (k : Nat) : bcodes n f liars sender g (k + 1) = bcodes n f liars sender g k ++ [.int .i64 (bstep n f liars sender (g k) (bst n f liars sender g k)).1] := by
  unfold bcodes; rw [List.range_succ, List.map_append]; rfl
def TolQ (n k : Nat) (codes : List Int) (s : BS) (v : Value) (w : World) : Prop :=
  ∃ A0 c0 A1 c1 A2 c2, v = .agg #[.slice A0 k c0, .slice A1 n c1, .slice A2 n c2, iV s.all.length, iV ((s.all.length - s.came.length : Nat) : Int)] ∧ codes.length = k ∧ Rd w A0 (codes.map (Value.int .i64)) ∧ Rd w A1 (((List.range n).map fun i => (s.mi i).has).map Value.bool) ∧ Rd w A2 (((List.range n).map fun i => (s.mi i).value).map (Value.int .i64))
theorem TolQ.below {n k : Nat} {codes : List Int} {s : BS} {v : Value} {w w' : World} (h : TolQ n k codes s v w) (hB : Below w.heap.size w w') : TolQ n k codes s v w' := by
  obtain ⟨A0, c0, A1, c1, A2, c2, h0, h1, h2, h3, h4⟩ := h
  exact ⟨A0, c0, A1, c1, A2, c2, h0, h1, h2.below hB, h3.below hB, h4.below hB⟩
/-- Of k processes the boxes and maps are made. -/
noncomputable abbrev LIni (n f liars sender wb k : Nat) (vp : Value) (mb : Nat → Nat) : List Ob :=
  [oBox wb [iV n, iV f, .int .u32 liars, iV sender, nilS, vp, .bool false], oOwn 226 5 0 nilS [], oOwn 221 5 k vp ((List.range k).flatMap fun i => prL mind0 (mb i))] ++ fam k (fun i => oMap EF (mb i) 0 (heardM []))
theorem range_flat_congr {F G : Nat → List Value} {k : Nat} (h : ∀ i, i < k → F i = G i) : (List.range k).flatMap F = (List.range k).flatMap G := by
  rw [List.flatMap_def, List.flatMap_def, List.map_congr_left fun i hi => h i (by simpa using hi)]
theorem heardM_nil : heardM [] = fun _ => none := rfl
theorem procs_recs {w : World} {B g c n : Nat} {mb : Nat → Nat} (h : OwnK w B 221 5 n (.slice (some ⟨g, 0, none⟩) n c) ((List.range n).flatMap fun i => prL mind0 (mb i))) (hg : g < w.heap.size) : Recs w g n 5 (fun i => prL mind0 (mb i)) :=
  Recs.of_own h hg fun i hi j hj => by
    rw [flat_at (f := fun i => prL mind0 (mb i)) (K := 5) (fun x => rfl) (by simpa using hi) hj]
    simp
set_option maxRecDepth 8000 in
set_option maxHeartbeats 8000000 in
noncomputable def braBut : { P : Prop // P → ∀ (n f liars sender : Nat) (A2 : Option Addr) (len cap : Nat) (g : Nat → SprC) (w : World), RdT w A2 len 6 (fun i => sprL (g i)) → (∀ i, fits .i64 (g i).n) → 1 ≤ n → n ≤ 7 → f ≤ (n - 1) / 3 → liars < 2 ^ n → sender < n → len ≤ 120 →
    Calls Try.prog 36 #[iV n, iV f, .int .u32 liars, iV sender, .slice A2 len cap] w fun e w' => ∃ v, e = .returned (.tuple #[v, .int .i64 0]) ∧ TolQ n len ((List.range len).map (bcode n f liars sender g)) (bst n f liars sender g len) v w' ∧ Below w.heap.size w w' } := by
  refine ⟨?P3 ∧ True, fun HH => ?body⟩
  case body =>
  intro n f liars sender A2 len cap g w hr hgf h1 hn hf3 hliars hs hlen
  have hf : f ≤ 2 := by omega
  have hl : liars < 4294967296 := Nat.lt_of_lt_of_le hliars (Nat.le_trans (Nat.pow_le_pow_right (by omega) hn) (by decide))
  have e1 : ((n : Int) < 1) = False := eq_false (by omega)
  have e2 : ((7 : Int) < n) = False := eq_false (by omega)
  have e3 : ((120 : Int) < len) = False := eq_false (by omega)
  have e4 : ((f : Int) < 0) = False := eq_false (by omega)
  have e6 : ((sender : Int) < 0) = False := eq_false (by omega)
  have e7 : ((n : Int) ≤ sender) = False := eq_false (by omega)
  have hB0 : Below w.heap.size w (w.alloc (.cells #[nilS, nilS, nilS, iV 0, iV 0] 88)) := (Below.refl _ _).alloc (Nat.le_refl _) _
  have hH0 := (Hp.nil (B := w.heap.size) (Nat.le_refl _)).st_add (o := oBox w.heap.size z5) hB0 (Box.new w _ _) (fun g hg => by cases hg; exact Nat.le_refl _)
  replace hH0 := hH0.hp
  refine calls_vc (rs := [.cell 10 88, .tmp 11]) Fa.mix Try.func36 rfl Try.ntmps36 rfl (by kernel_rfl) (Nat.le_of_ble_eq_true rfl) ?_
  (repeat rw [vc_seq]); refine vc_plain _ fun Q hQ => ?_; simp -dsimp (maxSteps := 2000000) only [Fa.F36, VC.Now, VC.vc_skip, VC.vc_ret, VC.vc_exit, VC.vc_block, VC.vc_cond, VC.vc_region, VC.lib, VC.mapN_drewN, VC.mapB_drewN, VC.regQ, VC.loopK, VC.reg, VC.opP, VC.opS, VC.opZ, VC.nomulB, VC.pv, VC.thenF, VC.blkF, VC.retF, VC.resV, VC.oneV, VC.evo, VC.bin, VC.binI, VC.cmpI, VC.arithI, VC.ldv, VC.slv, VC.pickP, VC.holds, VC.chainOf, VC.look, VC.junk, VC.put, VC.eff, VC.callee, VC.pureB, VC.rdK, VC.rdKs, VC.okKs, VC.eqKs, VC.fillL, VC.putL, VC.stW, VC.stOK, VC.mixF, VC.setAll, Nat.reduceAdd, Nat.reduceSub, Nat.reduceMul, if_true, if_false, ↓reduceIte, forall_const, implies_true, reduceCtorEq, ne_eq, Nat.reduceBNe, Nat.reduceBEq, IntKind.signed, Nat.reduceEqDiff, Nat.reduceLeDiff, Nat.reduceLT, eq_self, Int.reduceEq, Int.reduceLT, Int.reduceLE, Int.reduceAdd, Int.reduceSub, VC.regC_nil, VC.regC_cons, VC.regCK_eq, VC.callQ, VC.tailQ, VC.goCall, VC.chStep]
  change Q _ _ (w.alloc (.cells #[nilS, nilS, nilS, iV 0, iV 0] 88))
  generalize w.alloc (.cells #[nilS, nilS, nilS, iV 0, iV 0] 88) = wa at hH0 hB0 ⊢
  generalize hrb : w.heap.size = rb at hH0 hB0 ⊢
  have et : ((n : Int) - 1).tdiv 3 = (((n - 1) / 3 : Nat) : Int) := by
    rw [show (n : Int) - 1 = ((n - 1 : Nat) : Int) by omega]; exact (Int.ofNat_tdiv _ _).symm
  have e5 : ((((n - 1) / 3 : Nat) : Int) < f) = False := eq_false (by omega)
  have e8 : ((liars : Int).fdiv (2 ^ shN .u32 (n : Int)) = 0) = True := eq_true ((shr_zero (by omega)).mpr hliars)
  subst hQ; simp -dsimp (maxSteps := 2000000) only [VC.Now, VC.vc_skip, VC.vc_ret, VC.vc_exit, VC.vc_block, VC.vc_cond, VC.vc_region, VC.lib, VC.mapN_drewN, VC.mapB_drewN, VC.regQ, VC.loopK, VC.reg, VC.opP, VC.opS, VC.opZ, VC.nomulB, VC.pv, VC.thenF, VC.blkF, VC.retF, VC.resV, VC.oneV, VC.evo, VC.bin, VC.binI, VC.cmpI, VC.arithI, VC.ldv, VC.slv, VC.pickP, VC.holds, VC.chainOf, VC.look, VC.junk, VC.put, VC.eff, VC.callee, VC.pureB, VC.rdK, VC.rdKs, VC.okKs, VC.eqKs, VC.fillL, VC.putL, VC.stW, VC.stOK, VC.mixF, VC.setAll, Nat.reduceAdd, Nat.reduceSub, Nat.reduceMul, if_true, if_false, ↓reduceIte, forall_const, implies_true, reduceCtorEq, ne_eq, Nat.reduceBNe, Nat.reduceBEq, IntKind.signed, Nat.reduceEqDiff, Nat.reduceLeDiff, Nat.reduceLT, eq_self, Int.reduceEq, Int.reduceLT, Int.reduceLE, Int.reduceAdd, Int.reduceSub, VC.regC_nil, VC.regC_cons, VC.regCK_eq, VC.callQ, VC.tailQ, VC.goCall, VC.chStep]; (repeat rw [vc_seq]); refine vc_plain _ fun Q hQ => ?_; simp -dsimp (maxSteps := 2000000) only [Fa.F36, e1, e2, e3, undef, tu, uf, ul, ur, VC.Now, VC.vc_skip, VC.vc_ret, VC.vc_exit, VC.vc_block, VC.vc_cond, VC.vc_region, VC.lib, VC.mapN_drewN, VC.mapB_drewN, VC.regQ, VC.loopK, VC.reg, VC.opP, VC.opS, VC.opZ, VC.nomulB, VC.pv, VC.thenF, VC.blkF, VC.retF, VC.resV, VC.oneV, VC.evo, VC.bin, VC.binI, VC.cmpI, VC.arithI, VC.ldv, VC.slv, VC.pickP, VC.holds, VC.chainOf, VC.look, VC.junk, VC.put, VC.eff, VC.callee, VC.pureB, VC.rdK, VC.rdKs, VC.okKs, VC.eqKs, VC.fillL, VC.putL, VC.stW, VC.stOK, VC.mixF, VC.setAll, Nat.reduceAdd, Nat.reduceSub, Nat.reduceMul, if_true, if_false, ↓reduceIte, forall_const, implies_true, reduceCtorEq, ne_eq, Nat.reduceBNe, Nat.reduceBEq, IntKind.signed, Nat.reduceEqDiff, Nat.reduceLeDiff, Nat.reduceLT, eq_self, Int.reduceEq, Int.reduceLT, Int.reduceLE, Int.reduceAdd, Int.reduceSub, VC.regC_nil, VC.regC_cons, VC.regCK_eq, VC.callQ, VC.tailQ, VC.goCall, VC.chStep]
  intro u1
  subst hQ
  simp -dsimp (maxSteps := 2000000) only [Fa.F36, undef, tu, uf, ul, ur, VC.Now, VC.vc_skip, VC.vc_ret, VC.vc_exit, VC.vc_block, VC.vc_cond, VC.vc_region, VC.lib, VC.mapN_drewN, VC.mapB_drewN, VC.regQ, VC.loopK, VC.reg, VC.opP, VC.opS, VC.opZ, VC.nomulB, VC.pv, VC.thenF, VC.blkF, VC.retF, VC.resV, VC.oneV, VC.evo, VC.bin, VC.binI, VC.cmpI, VC.arithI, VC.ldv, VC.slv, VC.pickP, VC.holds, VC.chainOf, VC.look, VC.junk, VC.put, VC.eff, VC.callee, VC.pureB, VC.rdK, VC.rdKs, VC.okKs, VC.eqKs, VC.fillL, VC.putL, VC.stW, VC.stOK, VC.mixF, VC.setAll, Nat.reduceAdd, Nat.reduceSub, Nat.reduceMul, if_true, if_false, ↓reduceIte, forall_const, implies_true, reduceCtorEq, ne_eq, Nat.reduceBNe, Nat.reduceBEq, IntKind.signed, Nat.reduceEqDiff, Nat.reduceLeDiff, Nat.reduceLT, eq_self, Int.reduceEq, Int.reduceLT, Int.reduceLE, Int.reduceAdd, Int.reduceSub, VC.regC_nil, VC.regC_cons, VC.regCK_eq, VC.callQ, VC.tailQ, VC.goCall, VC.chStep]
  (repeat rw [vc_seq]); refine vc_plain _ fun Q hQ => ?_; simp -dsimp (maxSteps := 2000000) only [Fa.F36, e4, et, e5, undef, tu, uf, ul, ur, VC.Now, VC.vc_skip, VC.vc_ret, VC.vc_exit, VC.vc_block, VC.vc_cond, VC.vc_region, VC.lib, VC.mapN_drewN, VC.mapB_drewN, VC.regQ, VC.loopK, VC.reg, VC.opP, VC.opS, VC.opZ, VC.nomulB, VC.pv, VC.thenF, VC.blkF, VC.retF, VC.resV, VC.oneV, VC.evo, VC.bin, VC.binI, VC.cmpI, VC.arithI, VC.ldv, VC.slv, VC.pickP, VC.holds, VC.chainOf, VC.look, VC.junk, VC.put, VC.eff, VC.callee, VC.pureB, VC.rdK, VC.rdKs, VC.okKs, VC.eqKs, VC.fillL, VC.putL, VC.stW, VC.stOK, VC.mixF, VC.setAll, Nat.reduceAdd, Nat.reduceSub, Nat.reduceMul, if_true, if_false, ↓reduceIte, forall_const, implies_true, reduceCtorEq, ne_eq, Nat.reduceBNe, Nat.reduceBEq, IntKind.signed, Nat.reduceEqDiff, Nat.reduceLeDiff, Nat.reduceLT, eq_self, Int.reduceEq, Int.reduceLT, Int.reduceLE, Int.reduceAdd, Int.reduceSub, VC.regC_nil, VC.regC_cons, VC.regCK_eq, VC.callQ, VC.tailQ, VC.goCall, VC.chStep]
  refine ⟨fits_i64 (by omega) (by omega), fits_i64 (by omega) (by omega), fun u2 => ?_⟩
  subst hQ
  simp -dsimp (maxSteps := 2000000) only [Fa.F36, undef, tu, uf, ul, ur, VC.Now, VC.vc_skip, VC.vc_ret, VC.vc_exit, VC.vc_block, VC.vc_cond, VC.vc_region, VC.lib, VC.mapN_drewN, VC.mapB_drewN, VC.regQ, VC.loopK, VC.reg, VC.opP, VC.opS, VC.opZ, VC.nomulB, VC.pv, VC.thenF, VC.blkF, VC.retF, VC.resV, VC.oneV, VC.evo, VC.bin, VC.binI, VC.cmpI, VC.arithI, VC.ldv, VC.slv, VC.pickP, VC.holds, VC.chainOf, VC.look, VC.junk, VC.put, VC.eff, VC.callee, VC.pureB, VC.rdK, VC.rdKs, VC.okKs, VC.eqKs, VC.fillL, VC.putL, VC.stW, VC.stOK, VC.mixF, VC.setAll, Nat.reduceAdd, Nat.reduceSub, Nat.reduceMul, if_true, if_false, ↓reduceIte, forall_const, implies_true, reduceCtorEq, ne_eq, Nat.reduceBNe, Nat.reduceBEq, IntKind.signed, Nat.reduceEqDiff, Nat.reduceLeDiff, Nat.reduceLT, eq_self, Int.reduceEq, Int.reduceLT, Int.reduceLE, Int.reduceAdd, Int.reduceSub, VC.regC_nil, VC.regC_cons, VC.regCK_eq, VC.callQ, VC.tailQ, VC.goCall, VC.chStep]
  (repeat rw [vc_seq]); refine vc_plain _ fun Q hQ => ?_; simp -dsimp (maxSteps := 2000000) only [Fa.F36, e6, e7, e8, undef, tu, uf, ul, ur, VC.Now, VC.vc_skip, VC.vc_ret, VC.vc_exit, VC.vc_block, VC.vc_cond, VC.vc_region, VC.lib, VC.mapN_drewN, VC.mapB_drewN, VC.regQ, VC.loopK, VC.reg, VC.opP, VC.opS, VC.opZ, VC.nomulB, VC.pv, VC.thenF, VC.blkF, VC.retF, VC.resV, VC.oneV, VC.evo, VC.bin, VC.binI, VC.cmpI, VC.arithI, VC.ldv, VC.slv, VC.pickP, VC.holds, VC.chainOf, VC.look, VC.junk, VC.put, VC.eff, VC.callee, VC.pureB, VC.rdK, VC.rdKs, VC.okKs, VC.eqKs, VC.fillL, VC.putL, VC.stW, VC.stOK, VC.mixF, VC.setAll, Nat.reduceAdd, Nat.reduceSub, Nat.reduceMul, if_true, if_false, ↓reduceIte, forall_const, implies_true, reduceCtorEq, ne_eq, Nat.reduceBNe, Nat.reduceBEq, IntKind.signed, Nat.reduceEqDiff, Nat.reduceLeDiff, Nat.reduceLT, eq_self, Int.reduceEq, Int.reduceLT, Int.reduceLE, Int.reduceAdd, Int.reduceSub, VC.regC_nil, VC.regC_cons, VC.regCK_eq, VC.callQ, VC.tailQ, VC.goCall, VC.chStep]
  refine ⟨by omega, fun u3 => ?_⟩
  subst hQ
  simp -dsimp (maxSteps := 2000000) only [Fa.F36, undef, tu, uf, ul, ur, VC.Now, VC.vc_skip, VC.vc_ret, VC.vc_exit, VC.vc_block, VC.vc_cond, VC.vc_region, VC.lib, VC.mapN_drewN, VC.mapB_drewN, VC.regQ, VC.loopK, VC.reg, VC.opP, VC.opS, VC.opZ, VC.nomulB, VC.pv, VC.thenF, VC.blkF, VC.retF, VC.resV, VC.oneV, VC.evo, VC.bin, VC.binI, VC.cmpI, VC.arithI, VC.ldv, VC.slv, VC.pickP, VC.holds, VC.chainOf, VC.look, VC.junk, VC.put, VC.eff, VC.callee, VC.pureB, VC.rdK, VC.rdKs, VC.okKs, VC.eqKs, VC.fillL, VC.putL, VC.stW, VC.stOK, VC.mixF, VC.setAll, Nat.reduceAdd, Nat.reduceSub, Nat.reduceMul, if_true, if_false, ↓reduceIte, forall_const, implies_true, reduceCtorEq, ne_eq, Nat.reduceBNe, Nat.reduceBEq, IntKind.signed, Nat.reduceEqDiff, Nat.reduceLeDiff, Nat.reduceLT, eq_self, Int.reduceEq, Int.reduceLT, Int.reduceLE, Int.reduceAdd, Int.reduceSub, VC.regC_nil, VC.regC_cons, VC.regCK_eq, VC.callQ, VC.tailQ, VC.goCall, VC.chStep]
  (repeat rw [vc_seq]); refine vc_plain _ fun Q hQ => ?_; simp -dsimp (maxSteps := 2000000) only [Fa.F36, VC.Now, VC.vc_skip, VC.vc_ret, VC.vc_exit, VC.vc_block, VC.vc_cond, VC.vc_region, VC.lib, VC.mapN_drewN, VC.mapB_drewN, VC.regQ, VC.loopK, VC.reg, VC.opP, VC.opS, VC.opZ, VC.nomulB, VC.pv, VC.thenF, VC.blkF, VC.retF, VC.resV, VC.oneV, VC.evo, VC.bin, VC.binI, VC.cmpI, VC.arithI, VC.ldv, VC.slv, VC.pickP, VC.holds, VC.chainOf, VC.look, VC.junk, VC.put, VC.eff, VC.callee, VC.pureB, VC.rdK, VC.rdKs, VC.okKs, VC.eqKs, VC.fillL, VC.putL, VC.stW, VC.stOK, VC.mixF, VC.setAll, Nat.reduceAdd, Nat.reduceSub, Nat.reduceMul, if_true, if_false, ↓reduceIte, forall_const, implies_true, reduceCtorEq, ne_eq, Nat.reduceBNe, Nat.reduceBEq, IntKind.signed, Nat.reduceEqDiff, Nat.reduceLeDiff, Nat.reduceLT, eq_self, Int.reduceEq, Int.reduceLT, Int.reduceLE, Int.reduceAdd, Int.reduceSub, VC.regC_nil, VC.regC_cons, VC.regCK_eq, VC.callQ, VC.tailQ, VC.goCall, VC.chStep]
  change Q _ _ (wa.alloc (.cells [iV n, iV f, .int .u32 liars, iV sender, nilS, nilS, .bool false].toArray 218))
  have hH1 := (hH0.st_add (o := oBox wa.heap.size [iV n, iV f, .int .u32 liars, iV sender, nilS, nilS, .bool false]) ((Below.refl _ _).alloc (Nat.le_refl _) (.cells _ _)) (Box.new wa _ 218) (fun g hg => by cases hg; exact Nat.le_refl _)).hp
  have hB1 : Below rb w _ := hB0.trans (((Below.refl wa.heap.size wa).alloc (Nat.le_refl _) (.cells [iV n, iV f, .int .u32 liars, iV sender, nilS, nilS, .bool false].toArray 218)).mono hH0.base)
  generalize wa.alloc (.cells [iV n, iV f, .int .u32 liars, iV sender, nilS, nilS, .bool false].toArray 218) = w1 at hH1 hB1 ⊢
  generalize wa.heap.size = wb at hH1 ⊢
  clear hH0 hB0
  have hH2 : Hp rb ([oBox rb z5] ++ LIni n f liars sender wb 0 nilS (fun _ => 0)) w1 := by
    have h9 := (hH1.st_add (o := oOwn 226 5 0 nilS []) (Below.refl _ _) (OwnK.nil _ _ _ _) (fun g hg => by cases hg)).hp
    have h10 := (h9.st_add (o := oOwn 221 5 0 nilS []) (Below.refl _ _) (OwnK.nil _ _ _ _) (fun g hg => by cases hg)).hp
    exact h10.pick [3, 2, 1, 0] (by decide) _ rfl
  clear hH1
  subst hQ
  simp -dsimp (maxSteps := 2000000) only [Fa.F36, VC.Now, VC.vc, VC.lib, VC.mapN_drewN, VC.mapB_drewN, VC.regQ, VC.loopK, VC.reg, VC.opP, VC.opS, VC.opZ, VC.nomulB, VC.pv, VC.thenF, VC.blkF, VC.retF, VC.resV, VC.oneV, VC.evo, VC.bin, VC.binI, VC.cmpI, VC.arithI, VC.ldv, VC.slv, VC.pickP, VC.holds, VC.chainOf, VC.look, VC.junk, VC.put, VC.eff, VC.callee, VC.pureB, VC.rdK, VC.rdKs, VC.okKs, VC.eqKs, VC.fillL, VC.putL, VC.stW, VC.stOK, VC.mixF, VC.setAll, Nat.reduceAdd, Nat.reduceSub, Nat.reduceMul, if_true, if_false, ↓reduceIte, forall_const, implies_true, reduceCtorEq, ne_eq, Nat.reduceBNe, Nat.reduceBEq, IntKind.signed, Nat.reduceEqDiff, Nat.reduceLeDiff, Nat.reduceLT, eq_self, Int.reduceEq, Int.reduceLT, Int.reduceLE, Int.reduceAdd, Int.reduceSub, VC.regC_nil, VC.regC_cons, VC.regCK_eq, VC.callQ, VC.tailQ, VC.goCall, VC.chStep]
  refine loop_slots Fa.mix [62] [63, 64, 65, 66, 67, 68, 69, 70, 71, 72, 73, 74, 75] (fun mm vs wx => ∃ (k : Nat) (vp : Value) (mb : Nat → Nat), k + mm = n ∧ vs = [.int .i64 k] ∧ Below rb w wx ∧ Hp rb ([oBox rb z5] ++ LIni n f liars sender wb k vp mb) wx) n (by kernel_rfl) rfl
      ⟨0, nilS, fun _ => 0, by omega, rfl, hB1, hH2⟩ ?_
  clear hH2 hB1
  rintro mm vs u4 wx ⟨k, vp, mb, hkm, rfl, hBx, hH⟩
  by_cases hk : k < n
  · have e9 : ((k : Int) < n) = True := eq_true (by omega)
    obtain ⟨Ap, cp, rfl, _⟩ := id (hH.get 3 rfl : OwnK wx 0 221 5 k vp _)
    have bw : Box wx wb [iV n, iV f, .int .u32 liars, iV sender, nilS, .slice Ap k cp, .bool false] := hH.get 1 rfl
    have b5 := bw.at (i := 5) rfl
    have hwl := bw.1
    simp -dsimp (maxSteps := 2000000) only [Fa.F36, e9, rdSA_of b5, rdSN_of b5, rdSC_of b5, b5, hwl, VC.Now, VC.vc, VC.lib, VC.mapN_drewN, VC.mapB_drewN, VC.regQ, VC.loopK, VC.reg, VC.opP, VC.opS, VC.opZ, VC.nomulB, VC.pv, VC.thenF, VC.blkF, VC.retF, VC.resV, VC.oneV, VC.evo, VC.bin, VC.binI, VC.cmpI, VC.arithI, VC.ldv, VC.slv, VC.pickP, VC.holds, VC.chainOf, VC.look, VC.junk, VC.put, VC.eff, VC.callee, VC.pureB, VC.rdK, VC.rdKs, VC.okKs, VC.eqKs, VC.fillL, VC.putL, VC.stW, VC.stOK, VC.mixF, VC.setAll, Nat.reduceAdd, Nat.reduceSub, Nat.reduceMul, if_true, if_false, ↓reduceIte, forall_const, implies_true, reduceCtorEq, ne_eq, Nat.reduceBNe, Nat.reduceBEq, IntKind.signed, Nat.reduceEqDiff, Nat.reduceLeDiff, Nat.reduceLT, eq_self, Int.reduceEq, Int.reduceLT, Int.reduceLE, Int.reduceAdd, Int.reduceSub, VC.regC_nil, VC.regC_cons, VC.regCK_eq, VC.callQ, VC.tailQ, VC.goCall, VC.chStep]
    refine OPW_makeMapV EF rfl fun w2 hw2 hM2 => ?_
    have hB2 : Below wx.heap.size wx w2 := by rw [hw2]; exact (Below.refl _ _).alloc (Nat.le_refl _) _
    have hn2 : ∀ g, foot ([oBox rb z5] ++ LIni n f liars sender wb k (.slice Ap k cp) mb) g → g < wx.heap.size := fun g hg => (hH.foot_lt hg).2
    have hH2 := (hH.below hB2).snoc (o := oMap EF wx.heap.size 0 (heardM [])) (by rw [heardM_nil]; exact hM2) (fun g hg => by cases hg; exact ⟨hH.base, fun hf => by have := hn2 _ hf; omega⟩)
    have hB3 := hBx.trans (hB2.mono hH.base)
    generalize wx.heap.size = mk at hH2 hn2 ⊢
    clear hw2 hM2 hn2 hB2 b5 bw hH
    have hH3 : Hp rb ([oBox rb z5] ++ ([oBox wb [iV n, iV f, .int .u32 liars, iV sender, nilS, .slice Ap k cp, .bool false], oOwn 226 5 0 nilS [], oOwn 221 5 k (.slice Ap k cp) ((List.range k).flatMap fun i => prL mind0 (mb i))] ++ fam (k + 1) (fun i => oMap EF (upd mb k mk i) 0 (heardM [])))) w2 := by
      rw [fam_succ, upd_same, fam_congr (G := fun i => oMap EF (mb i) 0 (heardM [])) fun i hi => by rw [upd_other (by omega)]]
      rw [List.append_assoc] at hH2
      simpa only [List.append_assoc, List.cons_append, List.nil_append] using hH2
    clear hH2
    rw [VC.Now, VC.seqK_eq]
    have bw : Box w2 wb [iV n, iV f, .int .u32 liars, iV sender, nilS, .slice Ap k cp, .bool false] := hH3.get 1 rfl
    simp -dsimp (maxSteps := 2000000) only [Fa.F36, VC.Now, VC.vc, VC.lib, VC.mapN_drewN, VC.mapB_drewN, VC.regQ, VC.loopK, VC.reg, VC.opP, VC.opS, VC.opZ, VC.nomulB, VC.pv, VC.thenF, VC.blkF, VC.retF, VC.resV, VC.oneV, VC.evo, VC.bin, VC.binI, VC.cmpI, VC.arithI, VC.ldv, VC.slv, VC.pickP, VC.holds, VC.chainOf, VC.look, VC.junk, VC.put, VC.eff, VC.callee, VC.pureB, VC.rdK, VC.rdKs, VC.okKs, VC.eqKs, VC.fillL, VC.putL, VC.stW, VC.stOK, VC.mixF, VC.setAll, Nat.reduceAdd, Nat.reduceSub, Nat.reduceMul, if_true, if_false, ↓reduceIte, forall_const, implies_true, reduceCtorEq, ne_eq, Nat.reduceBNe, Nat.reduceBEq, IntKind.signed, Nat.reduceEqDiff, Nat.reduceLeDiff, Nat.reduceLT, eq_self, Int.reduceEq, Int.reduceLT, Int.reduceLE, Int.reduceAdd, Int.reduceSub, VC.regC_nil, VC.regC_cons, VC.regCK_eq, VC.callQ, VC.tailQ, VC.goCall, VC.chStep]
    refine OPW_appK (us := [.map (some mk), .bool false, .bool false, .bool false, iV 0]) rfl Fa.apI216 rfl rfl rfl (by simp [Value.oneCell']) (hH3.get 3 rfl : OwnK w2 0 221 5 k (.slice Ap k cp) _) (Nat.zero_le _) (by omega) (by decide) fun v7 w7 ho7 hg7 hs7 => ?_
    have e10 : (List.range (k + 1)).flatMap (fun i => prL mind0 (upd mb k mk i)) = (List.range k).flatMap (fun i => prL mind0 (mb i)) ++ [.map (some mk), .bool false, .bool false, .bool false, iV 0] := by
      rw [List.range_succ, List.flatMap_append]
      congr 1
      · exact range_flat_congr fun i hi => by rw [upd_other (by omega)]
      · show prL mind0 (upd mb k mk k) ++ [] = _
        rw [upd_same]; rfl
    rw [← e10] at ho7
    obtain ⟨⟨g1, g2⟩, st7⟩ := hH3.growField 1 3 rfl rfl (by decide) ho7 hg7 hs7 5 (by show 5 < 7; omega)
    obtain ⟨A7, c7, rfl, _⟩ := id ho7
    have hwl7 : wb < w7.heap.size := by have := hg7.size; have := bw.1; omega
    rw [VC.Now, VC.seqK_eq]
    simp -dsimp (maxSteps := 2000000) only [Fa.F36, hwl7, g1, g2, VC.Now, VC.vc, VC.lib, VC.mapN_drewN, VC.mapB_drewN, VC.regQ, VC.loopK, VC.reg, VC.opP, VC.opS, VC.opZ, VC.nomulB, VC.pv, VC.thenF, VC.blkF, VC.retF, VC.resV, VC.oneV, VC.evo, VC.bin, VC.binI, VC.cmpI, VC.arithI, VC.ldv, VC.slv, VC.pickP, VC.holds, VC.chainOf, VC.look, VC.junk, VC.put, VC.eff, VC.callee, VC.pureB, VC.rdK, VC.rdKs, VC.okKs, VC.eqKs, VC.fillL, VC.putL, VC.stW, VC.stOK, VC.mixF, VC.setAll, Nat.reduceAdd, Nat.reduceSub, Nat.reduceMul, if_true, if_false, ↓reduceIte, forall_const, implies_true, reduceCtorEq, ne_eq, Nat.reduceBNe, Nat.reduceBEq, IntKind.signed, Nat.reduceEqDiff, Nat.reduceLeDiff, Nat.reduceLT, eq_self, Int.reduceEq, Int.reduceLT, Int.reduceLE, Int.reduceAdd, Int.reduceSub, VC.regC_nil, VC.regC_cons, VC.regCK_eq, VC.callQ, VC.tailQ, VC.goCall, VC.chStep]
    exact ⟨fits_i64_nat (by omega), SAME.intro (by kernel_rfl), mm - 1, by omega, k + 1, .slice A7 (k + 1) c7, upd mb k mk, by omega, rfl, hB3.trans (st7.below hH3), st7.hp⟩
  obtain rfl : k = n := by omega
  have e9 : ((k : Int) < k) = False := eq_false (by omega)
  have hO := (hH.get 3 rfl : OwnK wx 0 221 5 k vp _)
  obtain ⟨pg, pc, rfl, hpg0, hpg⟩ := hO.form (by omega)
  have hRp := procs_recs hO hpg
  have hH4 : Hp rb (oBox rb z5 :: BObs k f liars sender ⟨wb, pg, pc, mb⟩ bs0 nilS) wx := by
    unfold BObs
    rw [List.append_nil]
    exact hH.reword 3 rfl (o' := oRecs pg k 5 (fun i => prL mind0 (mb i))) hRp rfl
  clear hO hRp hH
  simp -dsimp (maxSteps := 2000000) only [Fa.F36, e9, VC.Now, VC.vc, VC.lib, VC.mapN_drewN, VC.mapB_drewN, VC.regQ, VC.loopK, VC.reg, VC.opP, VC.opS, VC.opZ, VC.nomulB, VC.pv, VC.thenF, VC.blkF, VC.retF, VC.resV, VC.oneV, VC.evo, VC.bin, VC.binI, VC.cmpI, VC.arithI, VC.ldv, VC.slv, VC.pickP, VC.holds, VC.chainOf, VC.look, VC.junk, VC.put, VC.eff, VC.callee, VC.pureB, VC.rdK, VC.rdKs, VC.okKs, VC.eqKs, VC.fillL, VC.putL, VC.mixF, VC.setAll, Nat.reduceAdd, Nat.reduceSub, Nat.reduceMul, if_true, if_false, ↓reduceIte, forall_const, implies_true, reduceCtorEq, ne_eq, Nat.reduceBNe, Nat.reduceBEq, IntKind.signed, Nat.reduceEqDiff, Nat.reduceLeDiff, Nat.reduceLT, eq_self, Int.reduceEq, Int.reduceLT, Int.reduceLE, Int.reduceAdd, Int.reduceSub, VC.regC_nil, VC.regC_cons, VC.regCK_eq, VC.callQ, VC.tailQ, VC.goCall, VC.chStep]
  have hB9 : Below wx.heap.size wx (wx.alloc (.cells z5.toArray 88)) := (Below.refl _ _).alloc (Nat.le_refl _) _
  have hHo := (hH4.st_add (o := oBox wx.heap.size z5) hB9 (Box.new wx _ 88) (fun g hg => by cases hg; exact Nat.le_refl _)).hp
  have hBo : Below rb w _ := hBx.trans (hB9.mono hH4.base)
  change WP _ _ _ _ _ _ (wx.alloc (.cells z5.toArray 88))
  generalize wx.alloc (.cells z5.toArray 88) = w9 at hHo hBo ⊢
  generalize wx.heap.size = b7 at hHo ⊢
  have hHs := (hHo.st_add (o := oOwn 24 1 0 nilS []) (Below.refl _ _) (OwnK.nil _ _ _ _) (fun g hg => by cases hg)).hp
  clear hHo hB9 hH4 hBx hpg hpg0
  refine loop_slots Fa.mix [78] [15, 79, 80, 81, 82, 83, 84, 85, 86, 87, 88, 89, 90] (fun mm vs wx => ∃ (t : Nat) (va vc : Value), t + mm = len ∧ vs = [.int .i64 t] ∧ Below rb w wx ∧
      Hp rb ([oOwn 24 1 t vc (bcodes k f liars sender g t), oBox b7 [vc, nilS, nilS, iV 0, iV 0], oBox rb z5] ++ BObs k f liars sender ⟨wb, pg, pc, mb⟩ (bst k f liars sender g t) va) wx) len (by kernel_rfl) rfl
      ⟨0, nilS, nilS, by omega, rfl, hBo, hHs⟩ ?_
  clear hHs hBo
  rintro mm2 vs u9 wz ⟨t, va, vc, hkm2, rfl, hBx, hH⟩
  have hok := bst_ok (f := f) (liars := liars) (g := g) hs hn hgf t
  by_cases ht : t < len
  · obtain ⟨b, o, rfl, hb, hc⟩ := (hr.below (by rw [hrb]; exact hBx)) (by omega)
    have s0 := hc t ht 0 _ rfl
    have s1 := hc t ht 1 _ rfl
    have s2 := hc t ht 2 _ rfl
    have s3 := hc t ht 3 _ rfl
    have s4 := hc t ht 4 _ rfl
    have s5 := hc t ht 5 _ rfl
    simp only [Nat.add_zero] at s0
    have e8' : ((t : Int) < len) = True := eq_true (by omega)
    have hms : bst k f liars sender g (t + 1) = (bstep k f liars sender (g t) (bst k f liars sender g t)).2 := rfl
    have hmc := bcodes_succ k f liars sender g t
    generalize bst k f liars sender g t = s at *
    generalize hgk : g t = c at *
    obtain ⟨Ac, cc, ec, _⟩ := id (hH.get 0 rfl : OwnK wz 0 24 1 t vc _)
    simp -dsimp (maxSteps := 2000000) only [Fa.F36, e8', rdI_of s0, s0, rdI_of s1, s1, rdI_of s2, s2, rdI_of s3, s3, rdI_of s4, s4, rdI_of s5, s5, hb, Int.toNat_natCast, VC.Now, VC.vc, VC.lib, VC.mapN_drewN, VC.mapB_drewN, VC.regQ, VC.loopK, VC.reg, VC.opP, VC.opS, VC.opZ, VC.nomulB, VC.pv, VC.thenF, VC.blkF, VC.retF, VC.resV, VC.oneV, VC.evo, VC.bin, VC.binI, VC.cmpI, VC.arithI, VC.ldv, VC.slv, VC.pickP, VC.holds, VC.chainOf, VC.look, VC.junk, VC.put, VC.eff, VC.callee, VC.pureB, VC.rdK, VC.rdKs, VC.okKs, VC.eqKs, VC.fillL, VC.putL, VC.stW, VC.stOK, VC.mixF, VC.setAll, Nat.reduceAdd, Nat.reduceSub, Nat.reduceMul, if_true, if_false, ↓reduceIte, forall_const, implies_true, reduceCtorEq, ne_eq, Nat.reduceBNe, Nat.reduceBEq, IntKind.signed, Nat.reduceEqDiff, Nat.reduceLeDiff, Nat.reduceLT, eq_self, Int.reduceEq, Int.reduceLT, Int.reduceLE, Int.reduceAdd, Int.reduceSub, VC.regC_nil, VC.regC_cons, VC.regCK_eq, VC.callQ, VC.tailQ, VC.goCall, VC.chStep]
    refine ⟨by omega, ?_⟩
    have hsay : Box (wz.alloc (.cells (sprL c).toArray 223)) wz.heap.size (sprL c) := Box.new wz _ _
    have hBs : Below wz.heap.size wz (wz.alloc (.cells (sprL c).toArray 223)) := (Below.refl _ _).alloc (Nat.le_refl _) _
    change WP _ _ _ _ _ _ (wz.alloc (.cells (sprL c).toArray 223))
    generalize wz.alloc (.cells (sprL c).toArray 223) = wy at hsay hBs ⊢
    have hHy := (hH.below hBs).perm (List.perm_append_comm)
    have hBy : Below rb w wy := hBx.trans (hBs.mono hH.base)
    have nsay : ¬ foot (BObs k f liars sender ⟨wb, pg, pc, mb⟩ s va) wz.heap.size := fun hf => by have := ((hH.perm (List.perm_append_comm)).left.foot_lt hf).2; omega
    have nsc : vc.ownBlock ≠ some wz.heap.size := fun hf => by have := (hH.lt 0 rfl hf).2; omega
    generalize wz.heap.size = sb at hsay hBs nsay nsc ⊢
    have hby := hsay.1
    have z0 := hsay.at (i := 0) rfl
    have z1 := hsay.at (i := 1) rfl
    have z2 := hsay.at (i := 2) rfl
    have z3 := hsay.at (i := 3) rfl
    have z4 := hsay.at (i := 4) rfl
    have y5 := hsay.at (i := 5) rfl
    have hHz := hHy.perm (List.perm_append_comm)
    have y1 := (hHz.get 1 rfl : Box wy b7 _).at (i := 0) rfl
    rw [ec] at y1
    have hwl := (hHz.get 1 rfl : Box wy b7 _).1
    have n7 : ¬ foot (BObs k f liars sender ⟨wb, pg, pc, mb⟩ s va) b7 := hHy.not_foot 1 rfl rfl
    have n7c : vc.ownBlock ≠ some b7 := fun hf => hHz.ne 0 1 (by decide) rfl rfl _ hf rfl
    have hHd := hHy.drewN 1
    have ag0 : Agree (fun j => foot (BObs k f liars sender ⟨wb, pg, pc, mb⟩ s va) j ∨ vc.ownBlock = some j) wy (wy.drewN 1) := Agree.of_below (below_drewN (Below.refl _ wy) 1)
    refine WP_held 8 (fun j => foot (BObs k f liars sender ⟨wb, pg, pc, mb⟩ s va) j ∨ vc.ownBlock = some j) (.take 0 (.take 1 (.take 2 (.take 3 (.one 4 (.one 5 (.one 6 (.take 7 (.one 8 .done))))))))) Fa.mix (by kernel_rfl) rfl ?_
    simp -dsimp (maxSteps := 2000000) only [VC.heldF_done, VC.heldF_last, VC.planF_done, VC.planF_take, VC.planF_one, VC.planF_two, VC.planK_eq, VC.heldF_take, VC.heldF_one, VC.heldF_two, VC.heldF_twoL, VC.heldK_eq, VC.okRd, Fa.F36, rdI_of z0, z0, rdI_of z1, z1, rdI_of z2, z2, rdI_of z3, z3, rdI_of z4, z4, rdI_of y5, y5, rdSA_of y1, rdSN_of y1, rdSC_of y1, y1, hwl, VC.Now, VC.vc, VC.lib, VC.mapN_drewN, VC.mapB_drewN, VC.regQ, VC.loopK, VC.reg, VC.opP, VC.opS, VC.opZ, VC.nomulB, VC.pv, VC.thenF, VC.blkF, VC.retF, VC.resV, VC.oneV, VC.evo, VC.bin, VC.binI, VC.cmpI, VC.arithI, VC.ldv, VC.slv, VC.pickP, VC.holds, VC.chainOf, VC.look, VC.junk, VC.put, VC.eff, VC.callee, VC.pureB, VC.rdK, VC.rdKs, VC.okKs, VC.eqKs, VC.fillL, VC.putL, VC.stW, VC.stOK, VC.mixF, VC.setAll, Nat.reduceAdd, Nat.reduceSub, Nat.reduceMul, if_true, if_false, ↓reduceIte, forall_const, implies_true, reduceCtorEq, ne_eq, Nat.reduceBNe, Nat.reduceBEq, IntKind.signed, Nat.reduceEqDiff, Nat.reduceLeDiff, Nat.reduceLT, eq_self, Int.reduceEq, Int.reduceLT, Int.reduceLE, Int.reduceAdd, Int.reduceSub, VC.regC_nil, VC.regC_cons, VC.regCK_eq, VC.callQ, VC.tailQ, VC.goCall, VC.chStep]
    refine ⟨fun h => h.elim n7 n7c, ⟨hby, fun h => h.elim nsay nsc⟩, ?_⟩
    have hgft : fits .i64 c.n := by rw [← hgk]; exact hgf t
    refine CALL_by (bstep_any hHd.left hok hs hn hf (by omega) hl c hgft) fun e w4 hp => ⟨_, hp.1, ?_⟩
    obtain ⟨_, q', st4⟩ := hp
    have st5 := (st4.part hHd).perm List.perm_append_comm List.perm_append_comm
    have ag4 := ag0.trans (st4.agree.mono fun j _ hj => Or.inl hj)
    have hH4 := st5.hp
    have y2 := (hH4.get 1 rfl : Box w4 b7 _).at (i := 0) rfl
    have hw4 := (hH4.get 1 rfl : Box w4 b7 _).1
    rw [ec] at y2
    simp -dsimp (maxSteps := 2000000) only [VC.heldF_done, VC.heldF_last, VC.planF_done, VC.planF_take, VC.planF_one, VC.planF_two, VC.planK_eq, VC.heldF_take, VC.heldF_one, VC.heldF_two, VC.heldF_twoL, VC.heldK_eq, VC.okRd, Fa.F36, rdSA_of y1, rdSN_of y1, rdSC_of y1, y1, hwl, hw4, rdSA_of y2, rdSN_of y2, rdSC_of y2, y2, VC.Now, VC.vc, VC.lib, VC.mapN_drewN, VC.mapB_drewN, VC.regQ, VC.loopK, VC.reg, VC.opP, VC.opS, VC.opZ, VC.nomulB, VC.pv, VC.thenF, VC.blkF, VC.retF, VC.resV, VC.oneV, VC.evo, VC.bin, VC.binI, VC.cmpI, VC.arithI, VC.ldv, VC.slv, VC.pickP, VC.holds, VC.chainOf, VC.look, VC.junk, VC.put, VC.eff, VC.callee, VC.pureB, VC.rdK, VC.rdKs, VC.okKs, VC.eqKs, VC.fillL, VC.putL, VC.stW, VC.stOK, VC.mixF, VC.setAll, Nat.reduceAdd, Nat.reduceSub, Nat.reduceMul, if_true, if_false, ↓reduceIte, forall_const, implies_true, reduceCtorEq, ne_eq, Nat.reduceBNe, Nat.reduceBEq, IntKind.signed, Nat.reduceEqDiff, Nat.reduceLeDiff, Nat.reduceLT, eq_self, Int.reduceEq, Int.reduceLT, Int.reduceLE, Int.reduceAdd, Int.reduceSub, VC.regC_nil, VC.regC_cons, VC.regCK_eq, VC.callQ, VC.tailQ, VC.goCall, VC.chStep]
    refine ⟨ag4, ag4.trans (Agree.of_below ((Below.refl _ _).alloc (Nat.le_refl _) _)), ?_⟩
    refine OPW_appK (v := vc) rfl Fa.apI33 (by rw [ec]; rfl) rfl rfl (by simp [Value.oneCell']) (hH4.get 0 rfl) (Nat.zero_le _) (by omega) (by decide) fun v5 w5 ho5 hg5 hst5 => ?_
    rw [← hmc] at ho5
    obtain ⟨⟨r1, r2⟩, st6⟩ := hH4.growField 1 0 rfl rfl (by decide) ho5 hg5 hst5 0 (by show 0 < 5; omega)
    obtain ⟨A5, c5, rfl, _⟩ := id ho5
    have hw6 : b7 < w5.heap.size := by simpa using (st6.hp.get 1 rfl : Box _ b7 _).1
    simp -dsimp (maxSteps := 2000000) only [VC.heldF_done, VC.heldF_last, VC.planF_done, VC.planF_take, VC.planF_one, VC.planF_two, VC.planK_eq, VC.heldF_take, VC.heldF_one, VC.heldF_two, VC.heldF_twoL, VC.heldK_eq, VC.okRd, Fa.F36, hw6, hw4, hwl, VC.Now, VC.vc, VC.lib, VC.mapN_drewN, VC.mapB_drewN, VC.regQ, VC.loopK, VC.reg, VC.opP, VC.opS, VC.opZ, VC.nomulB, VC.pv, VC.thenF, VC.blkF, VC.retF, VC.resV, VC.oneV, VC.evo, VC.bin, VC.binI, VC.cmpI, VC.arithI, VC.ldv, VC.slv, VC.pickP, VC.holds, VC.chainOf, VC.look, VC.junk, VC.put, VC.eff, VC.callee, VC.pureB, VC.rdK, VC.rdKs, VC.okKs, VC.eqKs, VC.fillL, VC.putL, VC.stW, VC.stOK, VC.mixF, VC.setAll, Nat.reduceAdd, Nat.reduceSub, Nat.reduceMul, if_true, if_false, ↓reduceIte, forall_const, implies_true, reduceCtorEq, ne_eq, Nat.reduceBNe, Nat.reduceBEq, IntKind.signed, Nat.reduceEqDiff, Nat.reduceLeDiff, Nat.reduceLT, eq_self, Int.reduceEq, Int.reduceLT, Int.reduceLE, Int.reduceAdd, Int.reduceSub, VC.regC_nil, VC.regC_cons, VC.regCK_eq, VC.callQ, VC.tailQ, VC.goCall, VC.chStep]
    have ag6 := ag4.trans (Agree.grown hg5 fun j hj => Or.inr hj)
    have hBw : Below rb w (w5.setCell ⟨b7, 0, none⟩ (.slice A5 (t + 1) c5)) := hBy.trans ((below_drewN (Below.refl rb wy) 1).trans ((st5.trans st6).below (hHd.perm List.perm_append_comm)))
    refine ⟨ag6, ⟨r1, r2⟩, fits_i64_nat (by omega), SAME.intro (by kernel_rfl), mm2 - 1, by omega, t + 1, q', .slice A5 (t + 1) c5, by omega, rfl, hBw, ?_⟩
    rw [hms]
    exact st6.hp
  · obtain rfl : t = len := by omega
    clear hr hgf e1 e2 e3 e4 e5 e6 e7 e8 et hkm hk hkm2 ht hf3 hliars e9 hf hl
    revert f liars sender A2 cap g w wa rb u1 u2 u3 w1 wb mm u4 wx k mb pg pc w9 b7 mm2 u9 wz t va vc
    exact HH.1
end Go.Proofs.Ytelfmhiaafkimaa
