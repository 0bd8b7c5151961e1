/- A ledger: the program's run. -/
import Derived.Test.YtelfmhiaafkimaaDoorLed2
import Derived.Test.YtelfmhiaafkimaaDoorIdxFuncI
import Derived.Test.YtelfmhiaafkimaaDoorTbl
namespace Go.Proofs.YtelfmhiaafkimaaDoor
open Go Go.RowKit Go.VC
set_option linter.unusedSimpArgs false
set_option linter.unusedVariables false
abbrev nilS : Value := .slice none 0 0
def badM (x : Int) : Bool := decide (x < 0) || decide (maxV < x)
/-- What is wrong with money, and with so many pays. -/
def ledCode (M : List Int) (np : Nat) : Int := if M.length = 0 ∨ 12 < M.length ∨ 60 < np then 1 else if M.any badM = true then 2 else 0
set_option maxHeartbeats 1000000 in
theorem badM_any (x : Int) (w : World) : Calls Tryd.prog 18 #[.int .i64 x] w fun e w' => e = .returned (.bool (badM x)) ∧ Below w.heap.size w w' := by
  have hmx : maxV = 1099511627776 := rfl
  unfold badM
  rw [hmx]
  by_cases q1 : x < 0
  · have e1 := eq_true q1
    have e1' : decide (x < 0) = true := decide_eq_true q1
    rw [e1']
    refine calls_vc (rs := [.tmp 2]) Fa.mix Tryd.func18 rfl Tryd.ntmps18 rfl (by kernel_rfl) (Nat.le_of_ble_eq_true rfl) ?_
    simp -dsimp (maxSteps := 2000000) only [Fa.F18, e1, undef, tu, uf, ul, ur, VC.Now, VC.vc, VC.lib, VC.mapN_drewN, VC.mapB_drewN, VC.regQ, VC.loopK, VC.reg, VC.opP, VC.opS, VC.opZ, VC.nomulB, VC.pv, VC.thenF, VC.blkF, VC.retF, VC.resV, VC.oneV, VC.evo, VC.bin, VC.binI, VC.cmpI, VC.arithI, VC.ldv, VC.slv, VC.pickP, VC.holds, VC.chainOf, VC.look, VC.junk, VC.put, VC.eff, VC.callee, VC.pureB, VC.rdK, VC.rdKs, VC.okKs, VC.eqKs, VC.fillL, VC.putL, VC.stW, VC.stOK, VC.mixF, VC.setAll, Nat.reduceAdd, Nat.reduceSub, Nat.reduceMul, if_true, if_false, ↓reduceIte, forall_const, implies_true, reduceCtorEq, ne_eq, Nat.reduceBNe, Nat.reduceBEq, IntKind.signed, Nat.reduceEqDiff, Nat.reduceLeDiff, Nat.reduceLT, eq_self, Int.reduceEq, Int.reduceLT, Int.reduceLE, Int.reduceAdd, Int.reduceSub, VC.regC_nil, VC.regC_cons, VC.regCK_eq, VC.callQ, VC.tailQ, VC.goCall, VC.chStep]
    exact Below.refl _ _
  · have e1 := eq_false q1
    have e1' : decide (x < 0) = false := decide_eq_false q1
    rw [e1']
    refine calls_vc (rs := [.tmp 2]) Fa.mix Tryd.func18 rfl Tryd.ntmps18 rfl (by kernel_rfl) (Nat.le_of_ble_eq_true rfl) ?_
    simp -dsimp (maxSteps := 2000000) only [Fa.F18, e1, undef, tu, uf, ul, ur, VC.Now, VC.vc, VC.lib, VC.mapN_drewN, VC.mapB_drewN, VC.regQ, VC.loopK, VC.reg, VC.opP, VC.opS, VC.opZ, VC.nomulB, VC.pv, VC.thenF, VC.blkF, VC.retF, VC.resV, VC.oneV, VC.evo, VC.bin, VC.binI, VC.cmpI, VC.arithI, VC.ldv, VC.slv, VC.pickP, VC.holds, VC.chainOf, VC.look, VC.junk, VC.put, VC.eff, VC.callee, VC.pureB, VC.rdK, VC.rdKs, VC.okKs, VC.eqKs, VC.fillL, VC.putL, VC.stW, VC.stOK, VC.mixF, VC.setAll, Nat.reduceAdd, Nat.reduceSub, Nat.reduceMul, if_true, if_false, ↓reduceIte, forall_const, implies_true, reduceCtorEq, ne_eq, Nat.reduceBNe, Nat.reduceBEq, IntKind.signed, Nat.reduceEqDiff, Nat.reduceLeDiff, Nat.reduceLT, eq_self, Int.reduceEq, Int.reduceLT, Int.reduceLE, Int.reduceAdd, Int.reduceSub, VC.regC_nil, VC.regC_cons, VC.regCK_eq, VC.callQ, VC.tailQ, VC.goCall, VC.chStep]
    exact Below.refl _ _
theorem testM (l : List Int) (w : World) : TestI w 18 [] l badM := fun x hx wr hB => badM_any x wr
/-- What a ledger comes to. -/
def LedQ (k np : Nat) (l : Nat → Acc) (codes : List Int) (A C : Option Addr) (w : World) : Prop := RdT w A k 2 (fun i => accL (l i)) ∧ Rd w C (codes.map (Value.int .i64)) ∧ codes.length = np
noncomputable abbrev lcodeL (k : Nat) (m : Nat → Int) (f : Nat → PayC) (t : Nat) : List Value := (List.range t).map fun i => Value.int .i64 (lcodes k m f i)
theorem lcodeL_succ (k : Nat) (m : Nat → Int) (f : Nat → PayC) (t : Nat) : lcodeL k m f (t + 1) = lcodeL k m f t ++ [.int .i64 (lcode k (f t) (lst k m f t))] := by
  unfold lcodeL; rw [List.range_succ, List.map_append]; rfl

theorem own_some {w : World} {B : Nat} {e : TypeId} {size n : Nat} {v : Value} {xs : List Value} (h : OwnK w B e size n v xs) (h0 : 0 < n) : ∃ g c, v = .slice (some ⟨g, 0, none⟩) n c := by
  obtain ⟨A, c, rfl, h1, h2⟩ := h
  rcases h2 with ⟨h3, h4⟩ | ⟨g', cap, cur, h3, h4, h5, _⟩
  · injection h3 with _ h5 _; omega
  · injection h3 with h5 _ _; subst h5; exact ⟨g', c, rfl⟩
abbrev accs (M : List Int) (i : Nat) : List Value := (List.range i).flatMap fun j => accL ⟨M.getD j 0, 0⟩
theorem accs_succ (M : List Int) (i : Nat) : accs M (i + 1) = accs M i ++ [.int .i64 (M.getD i 0), .int .i64 0] := by
  unfold accs; rw [List.range_succ, List.flatMap_append]; rfl

theorem boxSt (w : World) (z vs : List Value) (t : TypeId) (hl : vs.length = z.length) (h1 : ∀ v ∈ vs, v.oneCell' = true) :
    VC.stOK (w.alloc (.cells z.toArray t)) ⟨w.heap.size, 0, none⟩ 0 vs ∧ Box (VC.stW (w.alloc (.cells z.toArray t)) ⟨w.heap.size, 0, none⟩ 0 vs) w.heap.size vs ∧ Below w.heap.size w (VC.stW (w.alloc (.cells z.toArray t)) ⟨w.heap.size, 0, none⟩ 0 vs) := by
  obtain ⟨h2, h3⟩ := (Box.new w z t).stAll (vs := vs) hl h1
  exact ⟨h2, h3, (stW_agree (X := fun j => j = w.heap.size) rfl vs _ 0).to_below (below_box (Below.refl _ _) _) (by simp) fun j hj => by omega⟩
theorem accs_at {M : List Int} {k i j : Nat} (hi : i < k) (hj : j < 2) : (accs M k)[i * 2 + j]? = (accL ⟨M.getD i 0, 0⟩)[j]? := by
  have h := flat_at (f := fun j : Nat => accL ⟨M.getD j 0, 0⟩) (K := 2) (fun _ => rfl) (l := List.range k) (i := i) (j := j) (by simpa using hi) hj
  unfold accs
  rw [h, List.getElem_range]

set_option maxRecDepth 8000 in
set_option maxHeartbeats 8000000 in
theorem ledger_any (A : Option Addr) (M : List Int) (c : Nat) (C : Option Addr) (np cp : Nat) (f : Nat → PayC) (w : World) (hg : HasH w) (hm : Rd w A (M.map (Value.int .i64))) (hp : RdT w C np 4 (fun i => payL (f i))) (hf : ∀ i, fits .i64 (f i).n) (h0 : ledCode M np = 0) :
    Calls Tryd.prog 9 #[.slice A M.length c, .slice C np cp] w fun e w' => ∃ A1 c1 C1 c2, e = .returned (.tuple #[.slice A1 M.length c1, .slice C1 np c2, .int .i64 0]) ∧
      LedQ M.length np (lst M.length (fun i => M.getD i 0) f np) ((List.range np).map (lcodes M.length (fun i => M.getD i 0) f)) A1 C1 w' ∧ Below w.heap.size w w' := by
  have hr : 0 < M.length ∧ M.length ≤ 12 ∧ np ≤ 60 ∧ M.any badM = false := by
    unfold ledCode at h0
    split at h0
    · cases h0
    · split at h0
      · cases h0
      · rename_i h1 h2
        refine ⟨by omega, by omega, by omega, by simpa using h2⟩
  obtain ⟨r1, r2, r3, r4⟩ := hr
  have e1 : ((M.length : Int) = 0) = False := eq_false (by omega)
  have e2 : ((12 : Int) < M.length) = False := eq_false (by omega)
  have e3 : ((60 : Int) < np) = False := eq_false (by omega)
  have hlr := hg.lt
  have hmok : ∀ i, 0 ≤ (fun i => M.getD i 0) i ∧ (fun i => M.getD i 0) i ≤ maxV := fun i => by
    show 0 ≤ M.getD i 0 ∧ M.getD i 0 ≤ maxV
    by_cases hi : i < M.length
    · have h3 := List.any_eq_false.1 r4 M[i] (List.getElem_mem hi)
      rw [List.getD_eq_getElem?_getD, List.getElem?_eq_getElem hi]
      simp only [badM, Bool.or_eq_true, decide_eq_true_eq, not_or] at h3
      show 0 ≤ M[i] ∧ M[i] ≤ maxV
      omega
    · rw [List.getD_eq_getElem?_getD, List.getElem?_eq_none (by omega)]
      exact ⟨Int.le_refl _, by decide⟩
  refine calls_vc (rs := [.tmp 4, .tmp 5, .tmp 6]) Fa.mix Tryd.func9 rfl Tryd.ntmps9 rfl (by kernel_rfl) (Nat.le_of_ble_eq_true rfl) ?_
  simp -dsimp (maxSteps := 2000000) only [Fa.F9, e1, e2, e3, undef, tu, uf, ul, ur, VC.Now, VC.vc, VC.lib, VC.mapN_drewN, VC.mapB_drewN, VC.regQ, VC.loopK, VC.reg, VC.opP, VC.opS, VC.opZ, VC.nomulB, VC.pv, VC.thenF, VC.blkF, VC.retF, VC.resV, VC.oneV, VC.evo, VC.bin, VC.binI, VC.cmpI, VC.arithI, VC.ldv, VC.slv, VC.pickP, VC.holds, VC.chainOf, VC.look, VC.junk, VC.put, VC.eff, VC.callee, VC.pureB, VC.rdK, VC.rdKs, VC.okKs, VC.eqKs, VC.fillL, VC.putL, VC.stW, VC.stOK, VC.mixF, VC.setAll, Nat.reduceAdd, Nat.reduceSub, Nat.reduceMul, if_true, if_false, ↓reduceIte, forall_const, implies_true, reduceCtorEq, ne_eq, Nat.reduceBNe, Nat.reduceBEq, IntKind.signed, Nat.reduceEqDiff, Nat.reduceLeDiff, Nat.reduceLT, eq_self, Int.reduceEq, Int.reduceLT, Int.reduceLE, Int.reduceAdd, Int.reduceSub, VC.regC_nil, VC.regC_cons, VC.regCK_eq, VC.callQ, VC.tailQ, VC.goCall, VC.chStep]
  intro u
  have hcf := containsFuncI_any A c M badM 18 [] w hm (by omega) (by kernel_rfl) (testM M w)
  rw [r4] at hcf
  refine CALL_of hcf fun w1 hB1 => ?_
  rw [VC.Now, VC.seqK_eq]
  simp -dsimp (maxSteps := 2000000) only [Fa.F9, VC.Now, VC.vc, VC.lib, VC.mapN_drewN, VC.mapB_drewN, VC.regQ, VC.loopK, VC.reg, VC.opP, VC.opS, VC.opZ, VC.nomulB, VC.pv, VC.thenF, VC.blkF, VC.retF, VC.resV, VC.oneV, VC.evo, VC.bin, VC.binI, VC.cmpI, VC.arithI, VC.ldv, VC.slv, VC.pickP, VC.holds, VC.chainOf, VC.look, VC.junk, VC.put, VC.eff, VC.callee, VC.pureB, VC.rdK, VC.rdKs, VC.okKs, VC.eqKs, VC.fillL, VC.putL, VC.stW, VC.stOK, VC.mixF, VC.setAll, Nat.reduceAdd, Nat.reduceSub, Nat.reduceMul, if_true, if_false, ↓reduceIte, forall_const, implies_true, reduceCtorEq, ne_eq, Nat.reduceBNe, Nat.reduceBEq, IntKind.signed, Nat.reduceEqDiff, Nat.reduceLeDiff, Nat.reduceLT, eq_self, Int.reduceEq, Int.reduceLT, Int.reduceLE, Int.reduceAdd, Int.reduceSub, VC.regC_nil, VC.regC_cons, VC.regCK_eq, VC.callQ, VC.tailQ, VC.goCall, VC.chStep]
  have hN : Hp w.heap.size [oOwn 55 2 0 nilS []] w1 := ((Hp.nil (B := w.heap.size) hB1.size).st_add (o := oOwn 55 2 0 nilS []) (Below.refl _ _) (OwnK.nil _ _ _ _) (fun g hg => by cases hg)).hp
  refine loop_slots Fa.mix [30, 7] [9, 31, 32, 33, 34, 35, 36, 37, 38, 39] (fun m vs wx => ∃ (i : Nat) (v : Value), i + m = M.length ∧ vs = [.int .i64 i, v] ∧ Below w.heap.size w wx ∧ Hp w.heap.size [oOwn 55 2 i v (accs M i)] wx) M.length (by kernel_rfl) rfl
    ⟨0, nilS, by omega, rfl, hB1, hN⟩ ?_
  clear hN hB1
  rintro m vs u2 wx ⟨i, v, him, rfl, hBx, hH⟩
  by_cases hi : i < M.length
  · have e7 : ((i : Int) < M.length) = True := eq_true (by omega)
    obtain ⟨b, o, rfl, hb, hc⟩ := (hm.below hBx) (by simp; omega)
    have t0 := hc i (by simpa using hi)
    rw [List.getElem?_map, List.getElem?_eq_getElem hi] at t0
    have hgd : M.getD i 0 = M[i] := by rw [List.getD_eq_getElem?_getD, List.getElem?_eq_getElem hi]; rfl
    simp only [Option.map_some] at t0
    rw [← hgd] at t0
    obtain ⟨Av, cv, ev, _⟩ := id (hH.get 0 rfl : OwnK wx 0 55 2 i v _)
    rw [ev]
    simp -dsimp (maxSteps := 2000000) only [Fa.F9, e7, rdI_of t0, t0, hb, Int.toNat_natCast, VC.Now, VC.vc, VC.lib, VC.mapN_drewN, VC.mapB_drewN, VC.regQ, VC.loopK, VC.reg, VC.opP, VC.opS, VC.opZ, VC.nomulB, VC.pv, VC.thenF, VC.blkF, VC.retF, VC.resV, VC.oneV, VC.evo, VC.bin, VC.binI, VC.cmpI, VC.arithI, VC.ldv, VC.slv, VC.pickP, VC.holds, VC.chainOf, VC.look, VC.junk, VC.put, VC.eff, VC.callee, VC.pureB, VC.rdK, VC.rdKs, VC.okKs, VC.eqKs, VC.fillL, VC.putL, VC.stW, VC.stOK, VC.mixF, VC.setAll, Nat.reduceAdd, Nat.reduceSub, Nat.reduceMul, if_true, if_false, ↓reduceIte, forall_const, implies_true, reduceCtorEq, ne_eq, Nat.reduceBNe, Nat.reduceBEq, IntKind.signed, Nat.reduceEqDiff, Nat.reduceLeDiff, Nat.reduceLT, eq_self, Int.reduceEq, Int.reduceLT, Int.reduceLE, Int.reduceAdd, Int.reduceSub, VC.regC_nil, VC.regC_cons, VC.regCK_eq, VC.callQ, VC.tailQ, VC.goCall, VC.chStep]
    refine ⟨by omega, ?_⟩
    rw [← ev]
    refine OPW_appK (v := v) rfl Fa.apI36 (by rw [ev]; rfl) rfl rfl (by simp [Value.oneCell']) (hH.get 0 rfl) (Nat.zero_le _) (by omega) (by decide) fun v5 w5 ho5 hg5 hst5 => ?_
    rw [← accs_succ] at ho5
    have st5 := hH.grown 0 rfl ho5 hg5 hst5
    obtain ⟨A5, c5, rfl, _⟩ := id ho5
    rw [VC.Now, VC.seqK_eq]
    simp -dsimp (maxSteps := 2000000) only [Fa.F9, VC.Now, VC.vc, VC.lib, VC.mapN_drewN, VC.mapB_drewN, VC.regQ, VC.loopK, VC.reg, VC.opP, VC.opS, VC.opZ, VC.nomulB, VC.pv, VC.thenF, VC.blkF, VC.retF, VC.resV, VC.oneV, VC.evo, VC.bin, VC.binI, VC.cmpI, VC.arithI, VC.ldv, VC.slv, VC.pickP, VC.holds, VC.chainOf, VC.look, VC.junk, VC.put, VC.eff, VC.callee, VC.pureB, VC.rdK, VC.rdKs, VC.okKs, VC.eqKs, VC.fillL, VC.putL, VC.stW, VC.stOK, VC.mixF, VC.setAll, Nat.reduceAdd, Nat.reduceSub, Nat.reduceMul, if_true, if_false, ↓reduceIte, forall_const, implies_true, reduceCtorEq, ne_eq, Nat.reduceBNe, Nat.reduceBEq, IntKind.signed, Nat.reduceEqDiff, Nat.reduceLeDiff, Nat.reduceLT, eq_self, Int.reduceEq, Int.reduceLT, Int.reduceLE, Int.reduceAdd, Int.reduceSub, VC.regC_nil, VC.regC_cons, VC.regCK_eq, VC.callQ, VC.tailQ, VC.goCall, VC.chStep]
    exact ⟨fits_i64_nat (by omega), SAME.intro (by kernel_rfl), m - 1, by omega, i + 1, .slice A5 (i + 1) c5, by omega, rfl, hBx.trans (st5.below hH), st5.hp⟩
  · obtain rfl : i = M.length := by omega
    have e7 : ((M.length : Int) < M.length) = False := eq_false (by omega)
    obtain ⟨g0, c0, rfl⟩ := own_some (hH.get 0 rfl : OwnK wx 0 55 2 M.length v _) r1
    have hR : Recs wx g0 M.length 2 (fun i => accL (lst M.length (fun i => M.getD i 0) f 0 i)) := Recs.of_own (hH.get 0 rfl : OwnK wx 0 55 2 M.length _ _) (hH.lt 0 rfl rfl).2 fun i hi j hj => accs_at hi hj
    have hH1 := hH.reword 0 rfl (o' := oRecs g0 M.length 2 (fun i => accL (lst M.length (fun i => M.getD i 0) f 0 i))) hR rfl
    have hH2 := (hH1.st_add (o := oOwn 25 1 0 nilS []) (Below.refl _ _) (OwnK.nil _ _ _ _) (fun g hg => by cases hg)).hp
    have hH3 : Hp w.heap.size ([oRecs g0 M.length 2 (fun i => accL (lst M.length (fun i => M.getD i 0) f 0 i))] ++ [oOwn 25 1 0 nilS []]) wx := hH2.pick [1, 0] (by decide) _ rfl
    clear hH2 hH1 hH hR
    simp -dsimp (maxSteps := 2000000) only [Fa.F9, e7, VC.Now, VC.vc, VC.lib, VC.mapN_drewN, VC.mapB_drewN, VC.regQ, VC.loopK, VC.reg, VC.opP, VC.opS, VC.opZ, VC.nomulB, VC.pv, VC.thenF, VC.blkF, VC.retF, VC.resV, VC.oneV, VC.evo, VC.bin, VC.binI, VC.cmpI, VC.arithI, VC.ldv, VC.slv, VC.pickP, VC.holds, VC.chainOf, VC.look, VC.junk, VC.put, VC.eff, VC.callee, VC.pureB, VC.rdK, VC.rdKs, VC.okKs, VC.eqKs, VC.fillL, VC.putL, VC.stW, VC.stOK, VC.mixF, VC.setAll, Nat.reduceAdd, Nat.reduceSub, Nat.reduceMul, if_true, if_false, ↓reduceIte, forall_const, implies_true, reduceCtorEq, ne_eq, Nat.reduceBNe, Nat.reduceBEq, IntKind.signed, Nat.reduceEqDiff, Nat.reduceLeDiff, Nat.reduceLT, eq_self, Int.reduceEq, Int.reduceLT, Int.reduceLE, Int.reduceAdd, Int.reduceSub, VC.regC_nil, VC.regC_cons, VC.regCK_eq, VC.callQ, VC.tailQ, VC.goCall, VC.chStep]
    refine loop_slots Fa.mix [42, 10] [12, 43, 44, 45, 46, 47, 48, 49, 50, 51, 52, 53] (fun m vs wx => ∃ (j : Nat) (vc : Value), j + m = np ∧ vs = [.int .i64 j, vc] ∧ Below w.heap.size w wx ∧
        Hp w.heap.size ([oRecs g0 M.length 2 (fun i => accL (lst M.length (fun i => M.getD i 0) f j i))] ++ [oOwn 25 1 j vc (lcodeL M.length (fun i => M.getD i 0) f j)]) wx) np (by kernel_rfl) rfl
      ⟨0, nilS, by omega, rfl, hBx, hH3⟩ ?_
    clear hH3 hBx
    rintro m2 vs u3 wx2 ⟨j, vc, hjm, rfl, hBx, hH⟩
    have hlk := lok (k := M.length) (m := fun i => M.getD i 0) (f := f) hmok j
    have hls := lcodeL_succ M.length (fun i => M.getD i 0) f j
    have hlst : lst M.length (fun i => M.getD i 0) f (j + 1) = lnext M.length (f j) (lst M.length (fun i => M.getD i 0) f j) := rfl
    generalize hle : lst M.length (fun i => M.getD i 0) f j = l at *
    obtain ⟨Ac, cc, ec, _⟩ := id (hH.get 1 rfl : OwnK wx2 0 25 1 j vc _)
    by_cases hj : j < np
    · have e8 : ((j : Int) < np) = True := eq_true (by omega)
      obtain ⟨b, o, rfl, hb, hc⟩ := (hp.below hBx) (by omega)
      have s0 := hc j hj 0 _ rfl
      have s1 := hc j hj 1 _ rfl
      have s2 := hc j hj 2 _ rfl
      have s3 := hc j hj 3 _ rfl
      simp only [Nat.add_zero] at s0
      have hfj := hf j
      generalize hpj : f j = p at *
      obtain ⟨f1, f2, f3⟩ := boxSt wx2 [.int .i64 0, .int .i64 0, .int .i64 0, .int .i64 0] [.int .i64 p.fr, .int .i64 p.to, .int .i64 p.ser, .int .i64 p.n] 57 rfl (by intro v hv; simp at hv; rcases hv with rfl | rfl | rfl | rfl <;> rfl)
      have z0 := f2.at (i := 0) rfl
      have z1 := f2.at (i := 1) rfl
      have z2 := f2.at (i := 2) rfl
      have z3 := f2.at (i := 3) rfl
      have hsl := f2.1
      rw [ec]
      simp -dsimp (maxSteps := 2000000) only [Fa.F9, e8, rdI_of s0, s0, rdI_of s1, s1, rdI_of s2, s2, rdI_of s3, s3, hb, Int.toNat_natCast, rdI_of z0, z0, rdI_of z1, z1, rdI_of z2, z2, rdI_of z3, z3, hsl, VC.Now, VC.vc, VC.lib, VC.mapN_drewN, VC.mapB_drewN, VC.regQ, VC.loopK, VC.reg, VC.opP, VC.opS, VC.opZ, VC.nomulB, VC.pv, VC.thenF, VC.blkF, VC.retF, VC.resV, VC.oneV, VC.evo, VC.bin, VC.binI, VC.cmpI, VC.arithI, VC.ldv, VC.slv, VC.pickP, VC.holds, VC.chainOf, VC.look, VC.junk, VC.put, VC.eff, VC.callee, VC.pureB, VC.rdK, VC.rdKs, VC.okKs, VC.eqKs, VC.fillL, VC.putL, VC.mixF, VC.setAll, Nat.reduceAdd, Nat.reduceSub, Nat.reduceMul, if_true, if_false, ↓reduceIte, forall_const, implies_true, reduceCtorEq, ne_eq, Nat.reduceBNe, Nat.reduceBEq, IntKind.signed, Nat.reduceEqDiff, Nat.reduceLeDiff, Nat.reduceLT, eq_self, Int.reduceEq, Int.reduceLT, Int.reduceLE, Int.reduceAdd, Int.reduceSub, VC.regC_nil, VC.regC_cons, VC.regCK_eq, VC.callQ, VC.tailQ, VC.goCall, VC.chStep]
      refine ⟨by omega, f1, ?_⟩
      clear f1 z0 z1 z2 z3 hsl
      have hBy := hBx.trans (f3.mono hH.base)
      have hHy := hH.below f3
      generalize stW (wx2.alloc (.cells #[.int .i64 0, .int .i64 0, .int .i64 0, .int .i64 0] 57)) ⟨wx2.heap.size, 0, none⟩ 0 [.int .i64 p.fr, .int .i64 p.to, .int .i64 p.ser, .int .i64 p.n] = wy at hBy hHy ⊢
      clear f2 f3
      refine CALL_by (pay_any hHy.left hlk (by omega) r2 p hfj) fun e w4 hp => ⟨_, hp.1, ?_⟩
      obtain ⟨_, st4⟩ := hp
      rw [VC.Now, VC.seqK_eq]
      have st5 := st4.part hHy
      have hB4 := hBy.trans (st5.below hHy)
      simp -dsimp (maxSteps := 2000000) only [Fa.F9, VC.Now, VC.vc, VC.lib, VC.mapN_drewN, VC.mapB_drewN, VC.regQ, VC.loopK, VC.reg, VC.opP, VC.opS, VC.opZ, VC.nomulB, VC.pv, VC.thenF, VC.blkF, VC.retF, VC.resV, VC.oneV, VC.evo, VC.bin, VC.binI, VC.cmpI, VC.arithI, VC.ldv, VC.slv, VC.pickP, VC.holds, VC.chainOf, VC.look, VC.junk, VC.put, VC.eff, VC.callee, VC.pureB, VC.rdK, VC.rdKs, VC.okKs, VC.eqKs, VC.fillL, VC.putL, VC.stW, VC.stOK, VC.mixF, VC.setAll, Nat.reduceAdd, Nat.reduceSub, Nat.reduceMul, if_true, if_false, ↓reduceIte, forall_const, implies_true, reduceCtorEq, ne_eq, Nat.reduceBNe, Nat.reduceBEq, IntKind.signed, Nat.reduceEqDiff, Nat.reduceLeDiff, Nat.reduceLT, eq_self, Int.reduceEq, Int.reduceLT, Int.reduceLE, Int.reduceAdd, Int.reduceSub, VC.regC_nil, VC.regC_cons, VC.regCK_eq, VC.callQ, VC.tailQ, VC.goCall, VC.chStep]
      refine CALL_by (code_any _ w4 (hg.below hB4 hlr)) fun e w5 hp => ⟨_, hp.1, ?_⟩
      obtain ⟨_, hB5⟩ := hp
      have hH5 := st5.hp.below hB5
      have hB5' := hB4.trans (hB5.mono hB4.size)
      rw [VC.Now, VC.seqK_eq]
      simp -dsimp (maxSteps := 2000000) only [Fa.F9, VC.Now, VC.vc, VC.lib, VC.mapN_drewN, VC.mapB_drewN, VC.regQ, VC.loopK, VC.reg, VC.opP, VC.opS, VC.opZ, VC.nomulB, VC.pv, VC.thenF, VC.blkF, VC.retF, VC.resV, VC.oneV, VC.evo, VC.bin, VC.binI, VC.cmpI, VC.arithI, VC.ldv, VC.slv, VC.pickP, VC.holds, VC.chainOf, VC.look, VC.junk, VC.put, VC.eff, VC.callee, VC.pureB, VC.rdK, VC.rdKs, VC.okKs, VC.eqKs, VC.fillL, VC.putL, VC.stW, VC.stOK, VC.mixF, VC.setAll, Nat.reduceAdd, Nat.reduceSub, Nat.reduceMul, if_true, if_false, ↓reduceIte, forall_const, implies_true, reduceCtorEq, ne_eq, Nat.reduceBNe, Nat.reduceBEq, IntKind.signed, Nat.reduceEqDiff, Nat.reduceLeDiff, Nat.reduceLT, eq_self, Int.reduceEq, Int.reduceLT, Int.reduceLE, Int.reduceAdd, Int.reduceSub, VC.regC_nil, VC.regC_cons, VC.regCK_eq, VC.callQ, VC.tailQ, VC.goCall, VC.chStep]
      rw [← ec]
      refine OPW_appK (v := vc) rfl Fa.apI37 (by rw [ec]; rfl) rfl rfl (by simp [Value.oneCell']) (hH5.get 1 rfl) (Nat.zero_le _) (by omega) (by decide) fun v6 w6 ho6 hg6 hst6 => ?_
      rw [← hls] at ho6
      have st6 := hH5.grown 1 rfl ho6 hg6 hst6
      obtain ⟨A6, c6, rfl, _⟩ := id ho6
      rw [VC.Now, VC.seqK_eq]
      simp -dsimp (maxSteps := 2000000) only [Fa.F9, VC.Now, VC.vc, VC.lib, VC.mapN_drewN, VC.mapB_drewN, VC.regQ, VC.loopK, VC.reg, VC.opP, VC.opS, VC.opZ, VC.nomulB, VC.pv, VC.thenF, VC.blkF, VC.retF, VC.resV, VC.oneV, VC.evo, VC.bin, VC.binI, VC.cmpI, VC.arithI, VC.ldv, VC.slv, VC.pickP, VC.holds, VC.chainOf, VC.look, VC.junk, VC.put, VC.eff, VC.callee, VC.pureB, VC.rdK, VC.rdKs, VC.okKs, VC.eqKs, VC.fillL, VC.putL, VC.stW, VC.stOK, VC.mixF, VC.setAll, Nat.reduceAdd, Nat.reduceSub, Nat.reduceMul, if_true, if_false, ↓reduceIte, forall_const, implies_true, reduceCtorEq, ne_eq, Nat.reduceBNe, Nat.reduceBEq, IntKind.signed, Nat.reduceEqDiff, Nat.reduceLeDiff, Nat.reduceLT, eq_self, Int.reduceEq, Int.reduceLT, Int.reduceLE, Int.reduceAdd, Int.reduceSub, VC.regC_nil, VC.regC_cons, VC.regCK_eq, VC.callQ, VC.tailQ, VC.goCall, VC.chStep]
      refine ⟨fits_i64_nat (by omega), SAME.intro (by kernel_rfl), m2 - 1, by omega, j + 1, .slice A6 (j + 1) c6, by omega, rfl, hB5'.trans (st6.below hH5), ?_⟩
      rw [hlst]
      exact st6.hp
    · obtain rfl : j = np := by omega
      have e8 : ((j : Int) < j) = False := eq_false (by omega)
      rw [ec]
      simp -dsimp (maxSteps := 2000000) only [Fa.F9, e8, VC.Now, VC.vc, VC.lib, VC.mapN_drewN, VC.mapB_drewN, VC.regQ, VC.loopK, VC.reg, VC.opP, VC.opS, VC.opZ, VC.nomulB, VC.pv, VC.thenF, VC.blkF, VC.retF, VC.resV, VC.oneV, VC.evo, VC.bin, VC.binI, VC.cmpI, VC.arithI, VC.ldv, VC.slv, VC.pickP, VC.holds, VC.chainOf, VC.look, VC.junk, VC.put, VC.eff, VC.callee, VC.pureB, VC.rdK, VC.rdKs, VC.okKs, VC.eqKs, VC.fillL, VC.putL, VC.stW, VC.stOK, VC.mixF, VC.setAll, Nat.reduceAdd, Nat.reduceSub, Nat.reduceMul, if_true, if_false, ↓reduceIte, forall_const, implies_true, reduceCtorEq, ne_eq, Nat.reduceBNe, Nat.reduceBEq, IntKind.signed, Nat.reduceEqDiff, Nat.reduceLeDiff, Nat.reduceLT, eq_self, Int.reduceEq, Int.reduceLT, Int.reduceLE, Int.reduceAdd, Int.reduceSub, VC.regC_nil, VC.regC_cons, VC.regCK_eq, VC.callQ, VC.tailQ, VC.goCall, VC.chStep]
      have q1 := (hH.get 1 rfl : OwnK wx2 0 25 1 j vc _)
      rw [ec] at q1
      have e9 : lcodeL M.length (fun i => M.getD i 0) f j = ((List.range j).map (lcodes M.length (fun i => M.getD i 0) f)).map (Value.int .i64) := by unfold lcodeL; rw [List.map_map]; rfl
      rw [e9] at q1
      exact ⟨_, _, _, _, rfl, ⟨by rw [hle]; exact RdT.recs (hH.get 0 rfl : Recs wx2 g0 M.length 2 _) (fun _ _ => rfl), q1.rd.2, by simp⟩, hBx⟩
end Go.Proofs.YtelfmhiaafkimaaDoor
