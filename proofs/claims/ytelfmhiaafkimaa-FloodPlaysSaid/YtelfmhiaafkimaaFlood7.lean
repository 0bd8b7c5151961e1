/- What some who crash have said: the program's run. -/
import Derived.Test.YtelfmhiaafkimaaFlood6
namespace Go.Proofs.Ytelfmhiaafkimaa
open Go Go.RowKit Go.VC
set_option linter.unusedSimpArgs false
set_option linter.unusedVariables false
theorem made_maps (n : Nat) (ib : Nat → Nat) : (madeCells [Value.map none].toArray (n * 1)).toList = (List.range n).map (mapP 0 ib) := by
  apply List.ext_getElem?
  intro i
  by_cases hi : i < n
  · have := made_at (z := [Value.map none].toArray) (n := n) (K := 1) (i := i) (j := 0) rfl hi (by omega)
    simp only [Nat.mul_one, Nat.add_zero] at this ⊢
    rw [this, List.getElem?_map, List.getElem?_range hi]
    show some (Value.map none) = some (mapP 0 ib i)
    rw [mapP, if_neg (by omega)]
  · rw [List.getElem?_eq_none, List.getElem?_eq_none]
    · simpa using hi
    · simp [madeCells]; omega
open Classical in
noncomputable def hvO (p : Prop) : Option Value := if p then some (.int .i64 1) else none
theorem hvO_some {p : Prop} : (hvO p).isSome = true ↔ p := by
  by_cases h : p <;> simp [hvO, h]
theorem hvO_congr {p q : Prop} (h : p ↔ q) : hvO p = hvO q := by rw [propext h]
/-- All that are laid know what they should. -/
def KnQ (val : Nat → Int) (n : Nat) (cr : List CrashC) (r J : Nat) (kn : Nat → Int → Option Value) : Prop := ∀ j, j < J → ∀ x, EJ.ok x → kn j x = hvO (hasV val n cr r j x)
theorem ks_made {n g : Nat} {w w' : World} {B : Nat} (hB : Below w.heap.size w w') (hBw : B ≤ w.heap.size) (hg : g = w.heap.size) (ho : OwnK w' 0 97 1 n (.slice (some ⟨g, 0, none⟩) n n) (madeCells [Value.map none].toArray (n * 1)).toList) (hl : g < w'.heap.size) :
    Hp B (KS n 0 g (fun _ => 0) (fun _ => 0) (fun _ _ => none)) w' := by
  have hb := Box.of_own ho hl
  rw [made_maps n (fun _ => 0)] at hb
  have h1 := ((Hp.nil (B := B) hBw).st_add (o := oBox g ((List.range n).map (mapP 0 fun _ => 0))) hB hb (fun q hq => by cases hq; omega)).hp
  exact h1.free fun o ho => by
    obtain ⟨i, _, rfl⟩ := List.mem_map.1 ho
    unfold knO
    rw [if_neg (by omega)]
    exact ⟨OwnK.nil _ _ _ _, rfl⟩
set_option maxRecDepth 8000 in
set_option maxHeartbeats 8000000 in
theorem floodP_any (A0 : Option Addr) (n c0 R : Nat) (A : Option Addr) (len c : Nat) (val : Nat → Int) (g : Nat → CrashC) (w : World) (hv : RdT w A0 n 1 (fun i => [.int .i64 (val i)])) (hvf : ∀ i, i < n → fits .i64 (val i)) (hr : RdT w A len 3 (fun i => crL (g i))) (ht : ∀ i, (g i).to < 4294967296) (hfit : ∀ i, i < len → fits .i64 (g i).who) (h1 : 1 ≤ n) (hn : n ≤ 6) (hR : R ≤ 6) (hl : len ≤ 6) (hcode : flCode n g len = 0)
    (hpw : (crs g len).Pairwise fun a b => a.who ≠ b.who) :
    Calls Try.prog 33 #[.slice A0 n c0, .int .i64 R, .slice A len c] w fun e w' => ∃ Ar ca, e = .returned (.tuple #[.slice Ar n ca, .int .i64 0]) ∧ Rd w' Ar ((List.range n).map fun j => .int .i64 (leastF val (knB n (crs g len) R j) (val j) n)) ∧ Below w.heap.size w w' := by
  have b1 : ((n : Int) = 0) = False := eq_false (by omega)
  have b2 : ((6 : Int) < n) = False := eq_false (by omega)
  have b3 : ((R : Int) < 0) = False := eq_false (by omega)
  have b4 : ((6 : Int) < R) = False := eq_false (by omega)
  have b5 : ((6 : Int) < len) = False := eq_false (by omega)
  refine calls_vc (rs := [.tmp 6, .tmp 7]) Fa.mix Try.func33 rfl Try.ntmps33 rfl (by kernel_rfl) (Nat.le_of_ble_eq_true rfl) ?_
  simp -dsimp (maxSteps := 2000000) only [Fa.F33, b1, b2, b3, b4, b5, undef, tu, uf, ul, ur, VC.Now, VC.vc, VC.lib, VC.mapN_drewN, VC.mapB_drewN, VC.regQ, VC.loopK, VC.reg, VC.opP, VC.opS, VC.opZ, VC.nomulB, VC.pv, VC.thenF, VC.blkF, VC.retF, VC.resV, VC.oneV, VC.evo, VC.bin, VC.binI, VC.cmpI, VC.arithI, VC.ldv, VC.slv, VC.pickP, VC.holds, VC.chainOf, VC.look, VC.junk, VC.put, VC.eff, VC.callee, VC.pureB, VC.rdK, VC.rdKs, VC.okKs, VC.eqKs, VC.fillL, VC.putL, VC.stW, VC.stOK, VC.mixF, VC.setAll, Nat.reduceAdd, Nat.reduceSub, Nat.reduceMul, if_true, if_false, ↓reduceIte, forall_const, implies_true, reduceCtorEq, ne_eq, Nat.reduceBNe, Nat.reduceBEq, IntKind.signed, Nat.reduceEqDiff, Nat.reduceLeDiff, Nat.reduceLT, eq_self, Int.reduceEq, Int.reduceLT, Int.reduceLE, Int.reduceAdd, Int.reduceSub, VC.regC_nil, VC.regC_cons, VC.regCK_eq, VC.callQ, VC.tailQ, VC.goCall, VC.chStep]
  intro u9
  refine CALL_of (wrong_any A n len c g w hr ht hn hl hfit) fun w1 hB1 => ?_
  rw [hcode, VC.Now, VC.seqK_eq]
  simp -dsimp (maxSteps := 2000000) only [Fa.F33, b1, b2, b3, b4, b5, undef, tu, uf, ul, ur, VC.Now, VC.vc, VC.lib, VC.mapN_drewN, VC.mapB_drewN, VC.regQ, VC.loopK, VC.reg, VC.opP, VC.opS, VC.opZ, VC.nomulB, VC.pv, VC.thenF, VC.blkF, VC.retF, VC.resV, VC.oneV, VC.evo, VC.bin, VC.binI, VC.cmpI, VC.arithI, VC.ldv, VC.slv, VC.pickP, VC.holds, VC.chainOf, VC.look, VC.junk, VC.put, VC.eff, VC.callee, VC.pureB, VC.rdK, VC.rdKs, VC.okKs, VC.eqKs, VC.fillL, VC.putL, VC.stW, VC.stOK, VC.mixF, VC.setAll, Nat.reduceAdd, Nat.reduceSub, Nat.reduceMul, if_true, if_false, ↓reduceIte, forall_const, implies_true, reduceCtorEq, ne_eq, Nat.reduceBNe, Nat.reduceBEq, IntKind.signed, Nat.reduceEqDiff, Nat.reduceLeDiff, Nat.reduceLT, eq_self, Int.reduceEq, Int.reduceLT, Int.reduceLE, Int.reduceAdd, Int.reduceSub, VC.regC_nil, VC.regC_cons, VC.regCK_eq, VC.callQ, VC.tailQ, VC.goCall, VC.chStep]
  refine OPW_makeK (n := n) (base := 0) rfl Fa.apI202 rfl rfl rfl rfl (by omega) (by omega) (Nat.zero_le _) fun w4 ho4 hg4 => ?_
  have hB4 : Below w1.heap.size w1 w4 := (Below.refl _ _).grown hg4 (Nat.le_refl _) fun k hk => by cases hk
  have hl4 : w1.heap.size < w4.heap.size := (ho4.lt (g := w1.heap.size) rfl).2
  have hBw := hB1.trans (hB4.mono hB1.size)
  have hH0 := ks_made (B := w.heap.size) hB4 hB1.size rfl ho4 hl4
  rw [VC.Now, VC.seqK_eq]
  clear ho4 hg4 hB4 hl4
  generalize w1.heap.size = gk at hH0 ⊢
  simp -dsimp (maxSteps := 2000000) only [Fa.F33, VC.Now, VC.vc, VC.lib, VC.mapN_drewN, VC.mapB_drewN, VC.regQ, VC.loopK, VC.reg, VC.opP, VC.opS, VC.opZ, VC.nomulB, VC.pv, VC.thenF, VC.blkF, VC.retF, VC.resV, VC.oneV, VC.evo, VC.bin, VC.binI, VC.cmpI, VC.arithI, VC.ldv, VC.slv, VC.pickP, VC.holds, VC.chainOf, VC.look, VC.junk, VC.put, VC.eff, VC.callee, VC.pureB, VC.rdK, VC.rdKs, VC.okKs, VC.eqKs, VC.fillL, VC.putL, VC.stW, VC.stOK, VC.mixF, VC.setAll, Nat.reduceAdd, Nat.reduceSub, Nat.reduceMul, if_true, if_false, ↓reduceIte, forall_const, implies_true, reduceCtorEq, ne_eq, Nat.reduceBNe, Nat.reduceBEq, IntKind.signed, Nat.reduceEqDiff, Nat.reduceLeDiff, Nat.reduceLT, eq_self, Int.reduceEq, Int.reduceLT, Int.reduceLE, Int.reduceAdd, Int.reduceSub, VC.regC_nil, VC.regC_cons, VC.regCK_eq, VC.callQ, VC.tailQ, VC.goCall, VC.chStep]
  refine loop_slots Fa.mix [51] [11, 12, 52, 53, 54, 55, 56, 57, 58, 59, 60, 61, 62] (fun m vs wx => ∃ (k : Nat) (ib cn : Nat → Nat) (kn : Nat → Int → Option Value), k + m = n ∧ vs = [.int .i64 k] ∧ Below w.heap.size w wx ∧ Hp w.heap.size (KS n k gk ib cn kn) wx ∧ KnQ val n (crs g len) 0 k kn ∧ ∀ j, cn j ≤ 1) n (by kernel_rfl) rfl
    ⟨0, _, _, _, by omega, rfl, hBw, hH0, fun j hj => absurd hj (by omega), fun j => Nat.zero_le _⟩ ?_
  clear hH0 hBw hB1
  rintro m vs u2 wx ⟨k, ib, cn, kn, hkm, rfl, hBx, hH, hq, hcn⟩
  by_cases hk : k < n
  · have e7 : ((k : Int) < n) = True := eq_true (by omega)
    obtain ⟨b, o, rfl, hb0, hc3⟩ := (hv.below hBx) (by omega)
    have z0 := hc3 k hk 0 _ rfl
    simp only [Nat.mul_one, Nat.add_zero] at z0
    simp -dsimp (maxSteps := 2000000) only [Fa.F33, e7, rdI_of z0, z0, hb0, Int.toNat_natCast, VC.Now, VC.vc, VC.lib, VC.mapN_drewN, VC.mapB_drewN, VC.regQ, VC.loopK, VC.reg, VC.opP, VC.opS, VC.opZ, VC.nomulB, VC.pv, VC.thenF, VC.blkF, VC.retF, VC.resV, VC.oneV, VC.evo, VC.bin, VC.binI, VC.cmpI, VC.arithI, VC.ldv, VC.slv, VC.pickP, VC.holds, VC.chainOf, VC.look, VC.junk, VC.put, VC.eff, VC.callee, VC.pureB, VC.rdK, VC.rdKs, VC.okKs, VC.eqKs, VC.fillL, VC.putL, VC.stW, VC.stOK, VC.mixF, VC.setAll, Nat.reduceAdd, Nat.reduceSub, Nat.reduceMul, if_true, if_false, ↓reduceIte, forall_const, implies_true, reduceCtorEq, ne_eq, Nat.reduceBNe, Nat.reduceBEq, IntKind.signed, Nat.reduceEqDiff, Nat.reduceLeDiff, Nat.reduceLT, eq_self, Int.reduceEq, Int.reduceLT, Int.reduceLE, Int.reduceAdd, Int.reduceSub, VC.regC_nil, VC.regC_cons, VC.regCK_eq, VC.callQ, VC.tailQ, VC.goCall, VC.chStep]
    refine ⟨by omega, ?_⟩
    refine OPW_makeMapV EJ rfl fun w5 hw5 hM5 => ?_
    have hB5 : Below wx.heap.size wx w5 := by rw [hw5]; exact (Below.refl _ wx).alloc (Nat.le_refl _) _
    rw [VC.Now, VC.seqK_eq]
    simp -dsimp (maxSteps := 2000000) only [Fa.F33, VC.Now, VC.vc, VC.lib, VC.mapN_drewN, VC.mapB_drewN, VC.regQ, VC.loopK, VC.reg, VC.opP, VC.opS, VC.opZ, VC.nomulB, VC.pv, VC.thenF, VC.blkF, VC.retF, VC.resV, VC.oneV, VC.evo, VC.bin, VC.binI, VC.cmpI, VC.arithI, VC.ldv, VC.slv, VC.pickP, VC.holds, VC.chainOf, VC.look, VC.junk, VC.put, VC.eff, VC.callee, VC.pureB, VC.rdK, VC.rdKs, VC.okKs, VC.eqKs, VC.fillL, VC.putL, VC.stW, VC.stOK, VC.mixF, VC.setAll, Nat.reduceAdd, Nat.reduceSub, Nat.reduceMul, if_true, if_false, ↓reduceIte, forall_const, implies_true, reduceCtorEq, ne_eq, Nat.reduceBNe, Nat.reduceBEq, IntKind.signed, Nat.reduceEqDiff, Nat.reduceLeDiff, Nat.reduceLT, eq_self, Int.reduceEq, Int.reduceLT, Int.reduceLE, Int.reduceAdd, Int.reduceSub, VC.regC_nil, VC.regC_cons, VC.regCK_eq, VC.callQ, VC.tailQ, VC.goCall, VC.chStep]
    refine OPW_insV (x := val k) (c := .int .i64 1) hM5 rfl (by kernel_rfl) rfl rfl rfl (hvf k hk) (by unfold maxLen; omega) fun w6 hM6 ht6 => ?_
    have hB6 : Below wx.heap.size wx w6 := hB5.grown ht6.grown hB5.size fun q hq => by cases hq; exact Nat.le_refl _
    have st := KS.next hH hk hB6 hM6 (Nat.le_refl _)
    obtain ⟨q1, q2, q3⟩ := KS.cell (hH.below hB6) hk
    have k1 : (w6.cell? ⟨gk, k, none⟩).isSome = true := by rw [q1]; rfl
    rw [VC.Now, VC.seqK_eq]
    simp -dsimp (maxSteps := 2000000) only [Fa.F33, q2, q3, k1, Int.toNat_natCast, Nat.zero_add, VC.Now, VC.vc, VC.lib, VC.mapN_drewN, VC.mapB_drewN, VC.regQ, VC.loopK, VC.reg, VC.opP, VC.opS, VC.opZ, VC.nomulB, VC.pv, VC.thenF, VC.blkF, VC.retF, VC.resV, VC.oneV, VC.evo, VC.bin, VC.binI, VC.cmpI, VC.arithI, VC.ldv, VC.slv, VC.pickP, VC.holds, VC.chainOf, VC.look, VC.junk, VC.put, VC.eff, VC.callee, VC.pureB, VC.rdK, VC.rdKs, VC.okKs, VC.eqKs, VC.fillL, VC.putL, VC.stW, VC.stOK, VC.mixF, VC.setAll, Nat.reduceAdd, Nat.reduceSub, Nat.reduceMul, if_true, if_false, ↓reduceIte, forall_const, implies_true, reduceCtorEq, ne_eq, Nat.reduceBNe, Nat.reduceBEq, IntKind.signed, Nat.reduceEqDiff, Nat.reduceLeDiff, Nat.reduceLT, eq_self, Int.reduceEq, Int.reduceLT, Int.reduceLE, Int.reduceAdd, Int.reduceSub, VC.regC_nil, VC.regC_cons, VC.regCK_eq, VC.callQ, VC.tailQ, VC.goCall, VC.chStep]
    refine ⟨by omega, fits_i64_nat (by omega), SAME.intro (by kernel_rfl), m - 1, by omega, k + 1, _, _, _, by omega, rfl, hBx.trans (st.below hH), st.hp, fun j hj x hx => ?_, fun j => ?_⟩
    · by_cases e : j = k
      · subst e
        rw [upd_same]
        by_cases e2 : x = val j
        · rw [e2, updV_same]; unfold hvO; rw [if_pos ((hasV_zero hk).2 rfl)]
        · rw [updV_other e2]; unfold hvO; rw [if_neg (fun hh => e2 ((hasV_zero hk).1 hh))]
      · rw [upd_other e]; exact hq j (by omega) x hx
    · by_cases e : j = k
      · subst e; rw [upd_same]; split <;> omega
      · rw [upd_other e]; exact hcn j
  obtain rfl : k = n := by omega
  have e7 : ((k : Int) < k) = False := eq_false (by omega)
  simp -dsimp (maxSteps := 2000000) only [Fa.F33, e7, VC.Now, VC.vc, VC.lib, VC.mapN_drewN, VC.mapB_drewN, VC.regQ, VC.loopK, VC.reg, VC.opP, VC.opS, VC.opZ, VC.nomulB, VC.pv, VC.thenF, VC.blkF, VC.retF, VC.resV, VC.oneV, VC.evo, VC.bin, VC.binI, VC.cmpI, VC.arithI, VC.ldv, VC.slv, VC.pickP, VC.holds, VC.chainOf, VC.look, VC.junk, VC.put, VC.eff, VC.callee, VC.pureB, VC.rdK, VC.rdKs, VC.okKs, VC.eqKs, VC.fillL, VC.putL, VC.stW, VC.stOK, VC.mixF, VC.setAll, Nat.reduceAdd, Nat.reduceSub, Nat.reduceMul, if_true, if_false, ↓reduceIte, forall_const, implies_true, reduceCtorEq, ne_eq, Nat.reduceBNe, Nat.reduceBEq, IntKind.signed, Nat.reduceEqDiff, Nat.reduceLeDiff, Nat.reduceLT, eq_self, Int.reduceEq, Int.reduceLT, Int.reduceLE, Int.reduceAdd, Int.reduceSub, VC.regC_nil, VC.regC_cons, VC.regCK_eq, VC.callQ, VC.tailQ, VC.goCall, VC.chStep]
  refine loop_slots Fa.mix [64, 10] [13, 14, 15, 16, 65, 66, 67, 68, 69, 70, 71, 72, 73, 74, 75, 76, 77, 78, 79, 80, 81, 82, 83, 84, 85, 86, 87, 88, 89, 90, 91, 92, 93, 94, 95, 96, 97, 98, 99, 100, 101, 102, 103, 104, 105, 106, 107] (fun m vs wx => ∃ (r gk : Nat) (ib cn : Nat → Nat) (kn : Nat → Int → Option Value), r + m = R ∧ vs = [.int .i64 r, .slice (some ⟨gk, 0, none⟩) k k] ∧ Below w.heap.size w wx ∧ Hp w.heap.size (KS k k gk ib cn kn) wx ∧ KnQ val k (crs g len) r k kn ∧ ∀ j, cn j ≤ 6 ^ r) R (by kernel_rfl) rfl
    ⟨0, gk, ib, cn, kn, by omega, rfl, hBx, hH, hq, fun j => by have := hcn j; simpa using this⟩ ?_
  clear hBx hH hq hcn
  rintro m vs u2 wx ⟨r, gk, ib, cn, kn, hrm, rfl, hBx, hH, hq, hcn⟩
  by_cases hr2 : r < R
  · have e8 : ((r : Int) < R) = True := eq_true (by omega)
    simp -dsimp (maxSteps := 2000000) only [Fa.F33, e8, VC.Now, VC.vc, VC.lib, VC.mapN_drewN, VC.mapB_drewN, VC.regQ, VC.loopK, VC.reg, VC.opP, VC.opS, VC.opZ, VC.nomulB, VC.pv, VC.thenF, VC.blkF, VC.retF, VC.resV, VC.oneV, VC.evo, VC.bin, VC.binI, VC.cmpI, VC.arithI, VC.ldv, VC.slv, VC.pickP, VC.holds, VC.chainOf, VC.look, VC.junk, VC.put, VC.eff, VC.callee, VC.pureB, VC.rdK, VC.rdKs, VC.okKs, VC.eqKs, VC.fillL, VC.putL, VC.stW, VC.stOK, VC.mixF, VC.setAll, Nat.reduceAdd, Nat.reduceSub, Nat.reduceMul, if_true, if_false, ↓reduceIte, forall_const, implies_true, reduceCtorEq, ne_eq, Nat.reduceBNe, Nat.reduceBEq, IntKind.signed, Nat.reduceEqDiff, Nat.reduceLeDiff, Nat.reduceLT, eq_self, Int.reduceEq, Int.reduceLT, Int.reduceLE, Int.reduceAdd, Int.reduceSub, VC.regC_nil, VC.regC_cons, VC.regCK_eq, VC.callQ, VC.tailQ, VC.goCall, VC.chStep]
    refine OPW_makeK (n := k) (base := 0) rfl Fa.apI202 rfl rfl rfl rfl (by omega) (by omega) (Nat.zero_le _) fun w4 ho4 hg4 => ?_
    have hB4 : Below wx.heap.size wx w4 := (Below.refl _ _).grown hg4 (Nat.le_refl _) fun q hq => by cases hq
    have hl4 : wx.heap.size < w4.heap.size := (ho4.lt (g := wx.heap.size) rfl).2
    have hBw := hBx.trans (hB4.mono hH.base)
    have hN := ks_made (B := wx.heap.size) hB4 (Nat.le_refl _) rfl ho4 hl4
    have hH2 := hp_join (hH.below hB4) hN hH.base fun q hq => (hH.foot_lt hq).2
    rw [VC.Now, VC.seqK_eq]
    clear ho4 hg4 hB4 hl4 hN hH hBx
    generalize wx.heap.size = g2 at hH2 ⊢
    obtain ⟨Z, hZ⟩ : ∃ Z, Z = 6 ^ r := ⟨_, rfl⟩
    have hZ6 : Z ≤ 7776 := by rw [hZ]; exact Nat.pow_le_pow_right (n := 6) (by omega) (show r ≤ 5 by omega)
    have hZs : 6 ^ (r + 1) = 6 * Z := by rw [Nat.pow_succ, hZ, Nat.mul_comm]
    rw [← hZ] at hcn
    simp -dsimp (maxSteps := 2000000) only [Fa.F33, VC.Now, VC.vc, VC.lib, VC.mapN_drewN, VC.mapB_drewN, VC.regQ, VC.loopK, VC.reg, VC.opP, VC.opS, VC.opZ, VC.nomulB, VC.pv, VC.thenF, VC.blkF, VC.retF, VC.resV, VC.oneV, VC.evo, VC.bin, VC.binI, VC.cmpI, VC.arithI, VC.ldv, VC.slv, VC.pickP, VC.holds, VC.chainOf, VC.look, VC.junk, VC.put, VC.eff, VC.callee, VC.pureB, VC.rdK, VC.rdKs, VC.okKs, VC.eqKs, VC.fillL, VC.putL, VC.stW, VC.stOK, VC.mixF, VC.setAll, Nat.reduceAdd, Nat.reduceSub, Nat.reduceMul, if_true, if_false, ↓reduceIte, forall_const, implies_true, reduceCtorEq, ne_eq, Nat.reduceBNe, Nat.reduceBEq, IntKind.signed, Nat.reduceEqDiff, Nat.reduceLeDiff, Nat.reduceLT, eq_self, Int.reduceEq, Int.reduceLT, Int.reduceLE, Int.reduceAdd, Int.reduceSub, VC.regC_nil, VC.regC_cons, VC.regCK_eq, VC.callQ, VC.tailQ, VC.goCall, VC.chStep]
    refine loop_slots Fa.mix [70] [15, 16, 71, 72, 73, 74, 75, 76, 77, 78, 79, 80, 81, 82, 83, 84, 85, 86, 87, 88, 89, 90, 91, 92, 93, 94, 95, 96, 97, 98, 99, 100, 101, 102, 103, 104, 105] (fun m vs wx => ∃ (j : Nat) (ib2 cn2 : Nat → Nat) (kn2 : Nat → Int → Option Value), j + m = k ∧ vs = [.int .i64 j] ∧ Below w.heap.size w wx ∧ Hp w.heap.size (KS k j g2 ib2 cn2 kn2 ++ KS k k gk ib cn kn) wx ∧ KnQ val k (crs g len) (r + 1) j kn2 ∧ ∀ j, cn2 j ≤ 6 * Z) k (by kernel_rfl) rfl
      ⟨0, _, _, _, by omega, rfl, hBw, hH2, fun j hj => absurd hj (by omega), fun j => Nat.zero_le _⟩ ?_
    clear hBw hH2
    rintro m3 vs u3 wx ⟨j, ib2, cn2, kn2, hjm, rfl, hBx, hH, hq2, hcn2⟩
    by_cases hj : j < k
    · have e9 : ((j : Int) < k) = True := eq_true (by omega)
      have hKs := hp_right hH
      obtain ⟨c1, c2, c3⟩ := KS.cell hKs hj
      rw [mapP, if_pos hj] at c1
      simp -dsimp (maxSteps := 2000000) only [Fa.F33, e9, rdM_of c1, c1, c3, Int.toNat_natCast, Nat.zero_add, VC.Now, VC.vc, VC.lib, VC.mapN_drewN, VC.mapB_drewN, VC.regQ, VC.loopK, VC.reg, VC.opP, VC.opS, VC.opZ, VC.nomulB, VC.pv, VC.thenF, VC.blkF, VC.retF, VC.resV, VC.oneV, VC.evo, VC.bin, VC.binI, VC.cmpI, VC.arithI, VC.ldv, VC.slv, VC.pickP, VC.holds, VC.chainOf, VC.look, VC.junk, VC.put, VC.eff, VC.callee, VC.pureB, VC.rdK, VC.rdKs, VC.okKs, VC.eqKs, VC.fillL, VC.putL, VC.stW, VC.stOK, VC.mixF, VC.setAll, Nat.reduceAdd, Nat.reduceSub, Nat.reduceMul, if_true, if_false, ↓reduceIte, forall_const, implies_true, reduceCtorEq, ne_eq, Nat.reduceBNe, Nat.reduceBEq, IntKind.signed, Nat.reduceEqDiff, Nat.reduceLeDiff, Nat.reduceLT, eq_self, Int.reduceEq, Int.reduceLT, Int.reduceLE, Int.reduceAdd, Int.reduceSub, VC.regC_nil, VC.regC_cons, VC.regCK_eq, VC.callQ, VC.tailQ, VC.goCall, VC.chStep]
      refine ⟨by omega, ?_⟩
      refine CALL_of (clone_any (ib j) (cn j) (kn j) wx (KS.map hKs hj hj)) fun w5 ⟨hM5, hB5⟩ => ?_
      have hH5 := hH.below hB5
      have st := (KS.next hH.left hj hB5 hM5 (Nat.le_refl _)).part hH
      obtain ⟨d1, d2, d3⟩ := KS.cell (hH5.left) hj
      have k1 : (w5.cell? ⟨g2, j, none⟩).isSome = true := by rw [d1]; rfl
      rw [VC.Now, VC.seqK_eq]
      simp -dsimp (maxSteps := 2000000) only [Fa.F33, d2, d3, k1, Int.toNat_natCast, Nat.zero_add, VC.Now, VC.vc, VC.lib, VC.mapN_drewN, VC.mapB_drewN, VC.regQ, VC.loopK, VC.reg, VC.opP, VC.opS, VC.opZ, VC.nomulB, VC.pv, VC.thenF, VC.blkF, VC.retF, VC.resV, VC.oneV, VC.evo, VC.bin, VC.binI, VC.cmpI, VC.arithI, VC.ldv, VC.slv, VC.pickP, VC.holds, VC.chainOf, VC.look, VC.junk, VC.put, VC.eff, VC.callee, VC.pureB, VC.rdK, VC.rdKs, VC.okKs, VC.eqKs, VC.fillL, VC.putL, VC.stW, VC.stOK, VC.mixF, VC.setAll, Nat.reduceAdd, Nat.reduceSub, Nat.reduceMul, if_true, if_false, ↓reduceIte, forall_const, implies_true, reduceCtorEq, ne_eq, Nat.reduceBNe, Nat.reduceBEq, IntKind.signed, Nat.reduceEqDiff, Nat.reduceLeDiff, Nat.reduceLT, eq_self, Int.reduceEq, Int.reduceLT, Int.reduceLE, Int.reduceAdd, Int.reduceSub, VC.regC_nil, VC.regC_cons, VC.regCK_eq, VC.callQ, VC.tailQ, VC.goCall, VC.chStep]
      refine ⟨by omega, ?_⟩
      have hB6 := (hBx.trans (hB5.mono hH.base))
      have hBst := hBx.trans (st.below hH)
      have hH6 := st.hp
      clear st hH5 hH hBx hB5 hM5 d1 d2 d3 k1 c1 c2 c3 hKs hB6
      generalize w5.setCell ⟨g2, j, none⟩ (.map (some wx.heap.size)) = w6 at hH6 hBst ⊢
      generalize wx.heap.size = bj at hH6 ⊢
      refine loop_slots Fa.mix [82] [16, 83, 84, 85, 86, 87, 88, 89, 90, 91, 92, 93, 94, 95, 96, 97, 98, 99, 100, 101, 102, 103, 104] (fun m vs wx => ∃ (i : Nat) (cn3 : Nat → Nat) (kn3 : Nat → Int → Option Value), i + m = k ∧ vs = [.int .i64 i] ∧ Below w.heap.size w wx ∧ Hp w.heap.size (KS k (j + 1) g2 (upd ib2 j bj) cn3 kn3 ++ KS k k gk ib cn kn) wx ∧ KnQ val k (crs g len) (r + 1) j kn3 ∧
          (∀ x, EJ.ok x → kn3 j x = hvO (hasV val k (crs g len) r j x ∨ ∃ t, t < i ∧ t ≠ j ∧ sendsB (crs g len) t j r = true ∧ hasV val k (crs g len) r t x)) ∧ (∀ t, t ≠ j → cn3 t ≤ 6 * Z) ∧ cn3 j ≤ Z * (if j < i then i else i + 1)) k (by kernel_rfl) rfl
        ⟨0, _, _, by omega, rfl, hBst, hH6, fun t ht x hx => by rw [upd_other (show t ≠ j by omega)]; exact hq2 t ht x hx, fun x hx => ?_, fun t ht => by rw [upd_other ht]; exact hcn2 t, by rw [upd_same, if_neg (by omega)]; have := hcn j; omega⟩ ?_
      · rw [upd_same, hq j hj x hx]
        exact hvO_congr ⟨Or.inl, fun h => h.elim id fun ⟨t, ht, _⟩ => absurd ht (by omega)⟩
      clear hBst hH6 hq2 hcn2
      rintro m4 vs u4 wx ⟨i, cn3, kn3, him, rfl, hBx, hH, hq3, hqj, hcn3, hcnj⟩
      by_cases hi : i < k
      · have e10 : ((i : Int) < k) = True := eq_true (by omega)
        have hPs : ∀ x, (hasV val k (crs g len) r j x ∨ ∃ t, t < i + 1 ∧ t ≠ j ∧ sendsB (crs g len) t j r = true ∧ hasV val k (crs g len) r t x) ↔ ((hasV val k (crs g len) r j x ∨ ∃ t, t < i ∧ t ≠ j ∧ sendsB (crs g len) t j r = true ∧ hasV val k (crs g len) r t x) ∨ (i ≠ j ∧ sendsB (crs g len) i j r = true ∧ hasV val k (crs g len) r i x)) := fun x => by
          constructor
          · rintro (h | ⟨t, ht, h2, h3, h4⟩)
            · exact Or.inl (Or.inl h)
            · by_cases e : t = i
              · subst e; exact Or.inr ⟨h2, h3, h4⟩
              · exact Or.inl (Or.inr ⟨t, by omega, h2, h3, h4⟩)
          · rintro ((h | ⟨t, ht, h2, h3, h4⟩) | ⟨h2, h3, h4⟩)
            · exact Or.inl h
            · exact Or.inr ⟨t, by omega, h2, h3, h4⟩
            · exact Or.inr ⟨i, by omega, h2, h3, h4⟩
        by_cases hij : i = j
        · have e11 : ((i : Int) = j) = True := eq_true (by omega)
          simp -dsimp (maxSteps := 2000000) only [Fa.F33, e10, e11, undef, tu, uf, ul, ur, VC.Now, VC.vc, VC.lib, VC.mapN_drewN, VC.mapB_drewN, VC.regQ, VC.loopK, VC.reg, VC.opP, VC.opS, VC.opZ, VC.nomulB, VC.pv, VC.thenF, VC.blkF, VC.retF, VC.resV, VC.oneV, VC.evo, VC.bin, VC.binI, VC.cmpI, VC.arithI, VC.ldv, VC.slv, VC.pickP, VC.holds, VC.chainOf, VC.look, VC.junk, VC.put, VC.eff, VC.callee, VC.pureB, VC.rdK, VC.rdKs, VC.okKs, VC.eqKs, VC.fillL, VC.putL, VC.stW, VC.stOK, VC.mixF, VC.setAll, Nat.reduceAdd, Nat.reduceSub, Nat.reduceMul, if_true, if_false, ↓reduceIte, forall_const, implies_true, reduceCtorEq, ne_eq, Nat.reduceBNe, Nat.reduceBEq, IntKind.signed, Nat.reduceEqDiff, Nat.reduceLeDiff, Nat.reduceLT, eq_self, Int.reduceEq, Int.reduceLT, Int.reduceLE, Int.reduceAdd, Int.reduceSub, VC.regC_nil, VC.regC_cons, VC.regCK_eq, VC.callQ, VC.tailQ, VC.goCall, VC.chStep]
          intros
          refine ⟨fits_i64_nat (by omega), SAME.intro (by kernel_rfl), m4 - 1, by omega, i + 1, cn3, kn3, by omega, rfl, hBx, hH, hq3, fun x hx => ?_, hcn3, ?_⟩
          · rw [hqj x hx]
            exact hvO_congr ((hPs x).trans ⟨fun h => h.elim id fun h2 => absurd hij h2.1, Or.inl⟩).symm
          · rw [if_pos (by omega)]; rw [if_neg (by omega)] at hcnj; exact hcnj
        have e11 : ((i : Int) = j) = False := eq_false (by omega)
        have hsd := sends1_eq (k := i) (j := j) (r := r) hpw
        simp -dsimp (maxSteps := 2000000) only [Fa.F33, e10, e11, undef, tu, uf, ul, ur, VC.Now, VC.vc, VC.lib, VC.mapN_drewN, VC.mapB_drewN, VC.regQ, VC.loopK, VC.reg, VC.opP, VC.opS, VC.opZ, VC.nomulB, VC.pv, VC.thenF, VC.blkF, VC.retF, VC.resV, VC.oneV, VC.evo, VC.bin, VC.binI, VC.cmpI, VC.arithI, VC.ldv, VC.slv, VC.pickP, VC.holds, VC.chainOf, VC.look, VC.junk, VC.put, VC.eff, VC.callee, VC.pureB, VC.rdK, VC.rdKs, VC.okKs, VC.eqKs, VC.fillL, VC.putL, VC.stW, VC.stOK, VC.mixF, VC.setAll, Nat.reduceAdd, Nat.reduceSub, Nat.reduceMul, if_true, if_false, ↓reduceIte, forall_const, implies_true, reduceCtorEq, ne_eq, Nat.reduceBNe, Nat.reduceBEq, IntKind.signed, Nat.reduceEqDiff, Nat.reduceLeDiff, Nat.reduceLT, eq_self, Int.reduceEq, Int.reduceLT, Int.reduceLE, Int.reduceAdd, Int.reduceSub, VC.regC_nil, VC.regC_cons, VC.regCK_eq, VC.callQ, VC.tailQ, VC.goCall, VC.chStep]
        refine CALL_of (sends_any A len c g i j r wx (hr.below hBx) ht (by omega) (by omega)) fun w7 hB7 => ?_
        have hH7 := hH.below hB7
        have hBy := hBx.trans (hB7.mono hH.base)
        rw [hsd, VC.Now, VC.seqK_eq]
        cases hse : sendsB (crs g len) i j r with
        | false =>
          simp -dsimp (maxSteps := 2000000) only [Fa.F33, undef, tu, uf, ul, ur, VC.Now, VC.vc, VC.lib, VC.mapN_drewN, VC.mapB_drewN, VC.regQ, VC.loopK, VC.reg, VC.opP, VC.opS, VC.opZ, VC.nomulB, VC.pv, VC.thenF, VC.blkF, VC.retF, VC.resV, VC.oneV, VC.evo, VC.bin, VC.binI, VC.cmpI, VC.arithI, VC.ldv, VC.slv, VC.pickP, VC.holds, VC.chainOf, VC.look, VC.junk, VC.put, VC.eff, VC.callee, VC.pureB, VC.rdK, VC.rdKs, VC.okKs, VC.eqKs, VC.fillL, VC.putL, VC.stW, VC.stOK, VC.mixF, VC.setAll, Nat.reduceAdd, Nat.reduceSub, Nat.reduceMul, if_true, if_false, ↓reduceIte, forall_const, implies_true, reduceCtorEq, ne_eq, Nat.reduceBNe, Nat.reduceBEq, IntKind.signed, Nat.reduceEqDiff, Nat.reduceLeDiff, Nat.reduceLT, eq_self, Int.reduceEq, Int.reduceLT, Int.reduceLE, Int.reduceAdd, Int.reduceSub, VC.regC_nil, VC.regC_cons, VC.regCK_eq, VC.callQ, VC.tailQ, VC.goCall, VC.chStep]
          refine ⟨fits_i64_nat (by omega), SAME.intro (by kernel_rfl), m4 - 1, by omega, i + 1, cn3, kn3, by omega, rfl, hBy, hH7, hq3, fun x hx => ?_, hcn3, ?_⟩
          · rw [hqj x hx]
            exact hvO_congr ((hPs x).trans ⟨fun h => h.elim id fun h2 => absurd h2.2.1 (by rw [hse]; simp), Or.inl⟩).symm
          · refine Nat.le_trans hcnj (Nat.mul_le_mul_left Z ?_)
            split <;> split <;> omega
        | true =>
          simp -dsimp (maxSteps := 2000000) only [Fa.F33, undef, tu, uf, ul, ur, VC.Now, VC.vc, VC.lib, VC.mapN_drewN, VC.mapB_drewN, VC.regQ, VC.loopK, VC.reg, VC.opP, VC.opS, VC.opZ, VC.nomulB, VC.pv, VC.thenF, VC.blkF, VC.retF, VC.resV, VC.oneV, VC.evo, VC.bin, VC.binI, VC.cmpI, VC.arithI, VC.ldv, VC.slv, VC.pickP, VC.holds, VC.chainOf, VC.look, VC.junk, VC.put, VC.eff, VC.callee, VC.pureB, VC.rdK, VC.rdKs, VC.okKs, VC.eqKs, VC.fillL, VC.putL, VC.stW, VC.stOK, VC.mixF, VC.setAll, Nat.reduceAdd, Nat.reduceSub, Nat.reduceMul, if_true, if_false, ↓reduceIte, forall_const, implies_true, reduceCtorEq, ne_eq, Nat.reduceBNe, Nat.reduceBEq, IntKind.signed, Nat.reduceEqDiff, Nat.reduceLeDiff, Nat.reduceLT, eq_self, Int.reduceEq, Int.reduceLT, Int.reduceLE, Int.reduceAdd, Int.reduceSub, VC.regC_nil, VC.regC_cons, VC.regCK_eq, VC.callQ, VC.tailQ, VC.goCall, VC.chStep]
          obtain ⟨d1, d2, d3⟩ := KS.cell (hH7.left) hj
          rw [mapP, if_pos (by omega), upd_same] at d1
          have hKs := hp_right hH7
          obtain ⟨c1, c2, c3⟩ := KS.cell hKs hi
          rw [mapP, if_pos hi] at c1
          have hMj : MapV Try.prog EJ w7 bj (cn3 j) (kn3 j) := by
            have := KS.map hH7.left (show j < j + 1 by omega) hj
            rw [upd_same] at this; exact this
          have hMi := KS.map hKs hi hi
          have g1 : (KS k (j + 1) g2 (upd ib2 j bj) cn3 kn3)[1 + j]? = some (oMap EJ bj (cn3 j) (kn3 j)) := by
            have g1 := KS.getE (n := k) (J := j + 1) (g := g2) (ib := upd ib2 j bj) (cn := cn3) (kn := kn3) (show j < j + 1 by omega) hj
            rw [upd_same] at g1
            exact g1
          have hne : bj ≠ ib i := fun e => hH7.not_foot (1 + i) (KS.getE hi hi) (j := ib i) rfl (foot_at g1 (by rw [← e]; rfl))
          have hne2 : ¬ g2 = bj := fun e => hH7.left.ne 0 (1 + j) (by omega) rfl g1 g2 rfl (by rw [e]; rfl)
          have hne3 : ¬ gk = bj := fun e => hH7.not_foot 0 rfl (j := gk) rfl (foot_at g1 (by rw [e]; rfl))
          have hsz : cn3 j + cn i ≤ 100000 := by
            have h5 := hcn i
            have h6 : Z * (if j < i then i else i + 1) ≤ Z * 6 := Nat.mul_le_mul_left Z (by split <;> omega)
            omega
          have hone : ∀ x v, EJ.ok x → kn i x = some v → v.oneCell' = true := fun x v hx h => by
            rw [hq i hi x hx] at h
            unfold hvO at h
            split at h
            · cases h; rfl
            · cases h
          refine WP_held 99 (fun q => q = bj) (.take 0 (.take 1 (.take 2 (.take 3 (.take 4 (.take 5 (.take 6 (.take 7 (.one 8 .done))))))))) Fa.mix (by kernel_rfl) rfl ?_
          simp -dsimp (maxSteps := 2000000) only [VC.heldF_done, VC.heldF_last, VC.planF_done, VC.planF_take, VC.planF_one, VC.planF_two, VC.planK_eq, VC.heldF_take, VC.heldF_one, VC.heldF_two, VC.heldF_twoL, VC.heldK_eq, VC.okRd, Fa.F33, rdM_of d1, d1, d3, rdM_of c1, c1, c3, Int.toNat_natCast, Nat.zero_add, VC.Now, VC.vc, VC.lib, VC.mapN_drewN, VC.mapB_drewN, VC.regQ, VC.loopK, VC.reg, VC.opP, VC.opS, VC.opZ, VC.nomulB, VC.pv, VC.thenF, VC.blkF, VC.retF, VC.resV, VC.oneV, VC.evo, VC.bin, VC.binI, VC.cmpI, VC.arithI, VC.ldv, VC.slv, VC.pickP, VC.holds, VC.chainOf, VC.look, VC.junk, VC.put, VC.eff, VC.callee, VC.pureB, VC.rdK, VC.rdKs, VC.okKs, VC.eqKs, VC.fillL, VC.putL, VC.stW, VC.stOK, VC.mixF, VC.setAll, Nat.reduceAdd, Nat.reduceSub, Nat.reduceMul, if_true, if_false, ↓reduceIte, forall_const, implies_true, reduceCtorEq, ne_eq, Nat.reduceBNe, Nat.reduceBEq, IntKind.signed, Nat.reduceEqDiff, Nat.reduceLeDiff, Nat.reduceLT, eq_self, Int.reduceEq, Int.reduceLT, Int.reduceLE, Int.reduceAdd, Int.reduceSub, VC.regC_nil, VC.regC_cons, VC.regCK_eq, VC.callQ, VC.tailQ, VC.goCall, VC.chStep]
          refine ⟨by omega, hne2, by omega, hne3, ?_⟩
          refine CALL_by (copy_any bj (cn3 j) (ib i) (cn i) (kn3 j) (kn i) (w7.drewN 1) (hMj.drewN 1) (hMi.drewN 1) hne hsz hone) ?_
          rintro _ w8 ⟨rfl, n', m', hM8, hn8, hsp8, hA8⟩
          refine ⟨_, rfl, ?_⟩
          have hHd := hH7.drewN 1
          have st8 := (KS.turn (ib := upd ib2 j bj) hHd.left (show j < j + 1 by omega) hj (c := n') (m := m') (by rw [upd_same]; exact hM8) (by rw [upd_same]; exact hA8.mono fun q hq hh => hh.resolve_right (by omega))).part hHd
          have ag8 : Agree (fun q => q = bj) w7 w8 := (Agree.of_below (below_drewN (Below.refl _ w7) 1)).trans (hA8.mono fun q hq hh => hh.resolve_right (by omega))
          simp -dsimp (maxSteps := 2000000) only [VC.heldF_done, VC.heldF_last, VC.planF_done, VC.planF_take, VC.planF_one, VC.planF_two, VC.planK_eq, VC.heldF_take, VC.heldF_one, VC.heldF_two, VC.heldF_twoL, VC.heldK_eq, VC.okRd, Fa.F33, VC.Now, VC.vc, VC.lib, VC.mapN_drewN, VC.mapB_drewN, VC.regQ, VC.loopK, VC.reg, VC.opP, VC.opS, VC.opZ, VC.nomulB, VC.pv, VC.thenF, VC.blkF, VC.retF, VC.resV, VC.oneV, VC.evo, VC.bin, VC.binI, VC.cmpI, VC.arithI, VC.ldv, VC.slv, VC.pickP, VC.holds, VC.chainOf, VC.look, VC.junk, VC.put, VC.eff, VC.callee, VC.pureB, VC.rdK, VC.rdKs, VC.okKs, VC.eqKs, VC.fillL, VC.putL, VC.stW, VC.stOK, VC.mixF, VC.setAll, Nat.reduceAdd, Nat.reduceSub, Nat.reduceMul, if_true, if_false, ↓reduceIte, forall_const, implies_true, reduceCtorEq, ne_eq, Nat.reduceBNe, Nat.reduceBEq, IntKind.signed, Nat.reduceEqDiff, Nat.reduceLeDiff, Nat.reduceLT, eq_self, Int.reduceEq, Int.reduceLT, Int.reduceLE, Int.reduceAdd, Int.reduceSub, VC.regC_nil, VC.regC_cons, VC.regCK_eq, VC.callQ, VC.tailQ, VC.goCall, VC.chStep]
          refine ⟨ag8, fits_i64_nat (by omega), SAME.intro (by kernel_rfl), m4 - 1, by omega, i + 1, _, _, by omega, rfl, (below_drewN hBy 1).trans (st8.below hHd), st8.hp, fun t ht x hx => ?_, fun x hx => ?_, fun t ht => ?_, ?_⟩
          · rw [upd_other (show t ≠ j by omega)]; exact hq3 t ht x hx
          · rw [upd_same, hsp8 x hx, hq i hi x hx, hqj x hx]
            by_cases hh : hasV val k (crs g len) r i x
            · rw [if_pos (hvO_some.2 hh)]
              unfold hvO
              rw [if_pos hh, if_pos ((hPs x).2 (Or.inr ⟨hij, hse, hh⟩))]
            · rw [if_neg (fun h => hh (hvO_some.1 h))]
              exact hvO_congr ((hPs x).trans ⟨fun h => h.elim id fun h2 => absurd h2.2.2 hh, Or.inl⟩).symm
          · rw [upd_other ht]; exact hcn3 t ht
          · rw [upd_same]
            have h5 := hcn i
            have h6 : Z * (if j < i + 1 then i + 1 else i + 1 + 1) = Z * (if j < i then i else i + 1) + Z := by
              rw [← Nat.mul_succ]
              congr 1
              split <;> split <;> omega
            omega
      · obtain rfl : i = k := by omega
        have e10 : ((i : Int) < i) = False := eq_false (by omega)
        simp -dsimp (maxSteps := 2000000) only [Fa.F33, e10, VC.Now, VC.vc, VC.lib, VC.mapN_drewN, VC.mapB_drewN, VC.regQ, VC.loopK, VC.reg, VC.opP, VC.opS, VC.opZ, VC.nomulB, VC.pv, VC.thenF, VC.blkF, VC.retF, VC.resV, VC.oneV, VC.evo, VC.bin, VC.binI, VC.cmpI, VC.arithI, VC.ldv, VC.slv, VC.pickP, VC.holds, VC.chainOf, VC.look, VC.junk, VC.put, VC.eff, VC.callee, VC.pureB, VC.rdK, VC.rdKs, VC.okKs, VC.eqKs, VC.fillL, VC.putL, VC.stW, VC.stOK, VC.mixF, VC.setAll, Nat.reduceAdd, Nat.reduceSub, Nat.reduceMul, if_true, if_false, ↓reduceIte, forall_const, implies_true, reduceCtorEq, ne_eq, Nat.reduceBNe, Nat.reduceBEq, IntKind.signed, Nat.reduceEqDiff, Nat.reduceLeDiff, Nat.reduceLT, eq_self, Int.reduceEq, Int.reduceLT, Int.reduceLE, Int.reduceAdd, Int.reduceSub, VC.regC_nil, VC.regC_cons, VC.regCK_eq, VC.callQ, VC.tailQ, VC.goCall, VC.chStep]
        rw [if_pos hj] at hcnj
        refine ⟨fits_i64_nat (by omega), SAME.intro (by kernel_rfl), m3 - 1, by omega, j + 1, upd ib2 j bj, cn3, kn3, by omega, rfl, hBx, hH, fun t ht x hx => ?_, fun t => ?_⟩
        · by_cases e : t = j
          · subst e
            rw [hqj x hx]
            exact hvO_congr (hasV_succ hj).symm
          · exact hq3 t (by omega) x hx
        · by_cases e : t = j
          · subst e
            refine Nat.le_trans hcnj ?_
            rw [Nat.mul_comm]
            exact Nat.mul_le_mul_right Z hn
          · exact hcn3 t e
    · obtain rfl : j = k := by omega
      have e9 : ((j : Int) < j) = False := eq_false (by omega)
      simp -dsimp (maxSteps := 2000000) only [Fa.F33, e9, VC.Now, VC.vc, VC.lib, VC.mapN_drewN, VC.mapB_drewN, VC.regQ, VC.loopK, VC.reg, VC.opP, VC.opS, VC.opZ, VC.nomulB, VC.pv, VC.thenF, VC.blkF, VC.retF, VC.resV, VC.oneV, VC.evo, VC.bin, VC.binI, VC.cmpI, VC.arithI, VC.ldv, VC.slv, VC.pickP, VC.holds, VC.chainOf, VC.look, VC.junk, VC.put, VC.eff, VC.callee, VC.pureB, VC.rdK, VC.rdKs, VC.okKs, VC.eqKs, VC.fillL, VC.putL, VC.stW, VC.stOK, VC.mixF, VC.setAll, Nat.reduceAdd, Nat.reduceSub, Nat.reduceMul, if_true, if_false, ↓reduceIte, forall_const, implies_true, reduceCtorEq, ne_eq, Nat.reduceBNe, Nat.reduceBEq, IntKind.signed, Nat.reduceEqDiff, Nat.reduceLeDiff, Nat.reduceLT, eq_self, Int.reduceEq, Int.reduceLT, Int.reduceLE, Int.reduceAdd, Int.reduceSub, VC.regC_nil, VC.regC_cons, VC.regCK_eq, VC.callQ, VC.tailQ, VC.goCall, VC.chStep]
      exact ⟨fits_i64_nat (by omega), SAME.intro (by kernel_rfl), m - 1, by omega, r + 1, g2, ib2, cn2, kn2, by omega, rfl, hBx, hH.left, hq2, fun t => by rw [hZs]; exact hcn2 t⟩
  · obtain rfl : r = R := by omega
    have e8 : ((r : Int) < r) = False := eq_false (by omega)
    simp -dsimp (maxSteps := 2000000) only [Fa.F33, e8, VC.Now, VC.vc, VC.lib, VC.mapN_drewN, VC.mapB_drewN, VC.regQ, VC.loopK, VC.reg, VC.opP, VC.opS, VC.opZ, VC.nomulB, VC.pv, VC.thenF, VC.blkF, VC.retF, VC.resV, VC.oneV, VC.evo, VC.bin, VC.binI, VC.cmpI, VC.arithI, VC.ldv, VC.slv, VC.pickP, VC.holds, VC.chainOf, VC.look, VC.junk, VC.put, VC.eff, VC.callee, VC.pureB, VC.rdK, VC.rdKs, VC.okKs, VC.eqKs, VC.fillL, VC.putL, VC.stW, VC.stOK, VC.mixF, VC.setAll, Nat.reduceAdd, Nat.reduceSub, Nat.reduceMul, if_true, if_false, ↓reduceIte, forall_const, implies_true, reduceCtorEq, ne_eq, Nat.reduceBNe, Nat.reduceBEq, IntKind.signed, Nat.reduceEqDiff, Nat.reduceLeDiff, Nat.reduceLT, eq_self, Int.reduceEq, Int.reduceLT, Int.reduceLE, Int.reduceAdd, Int.reduceSub, VC.regC_nil, VC.regC_cons, VC.regCK_eq, VC.callQ, VC.tailQ, VC.goCall, VC.chStep]
    have hHl := hH.free (M := [oOwn 3 1 0 (.slice none 0 0) []]) (fun o ho => by rw [List.mem_singleton.1 ho]; exact ⟨OwnK.nil _ _ _ _, rfl⟩)
    refine loop_slots Fa.mix [110, 17] [19, 111, 112, 113, 114, 115, 116, 117, 118, 119, 120, 121] (fun m vs wx => ∃ (j : Nat) (v : Value), j + m = k ∧ vs = [.int .i64 j, v] ∧ Below w.heap.size w wx ∧ Hp w.heap.size (KS k k gk ib cn kn ++ [oOwn 3 1 j v ((List.range j).map fun j => .int .i64 (leastF val (knB k (crs g len) r j) (val j) k))]) wx) k (by kernel_rfl) rfl
      ⟨0, _, by omega, rfl, hBx, hHl⟩ ?_
    clear hHl hH hBx
    rintro m3 vs u3 wx ⟨j, v, hjm, rfl, hBx, hH⟩
    by_cases hj : j < k
    · have e9 : ((j : Int) < k) = True := eq_true (by omega)
      obtain ⟨c1, c2, c3⟩ := KS.cell hH.left hj
      rw [mapP, if_pos hj] at c1
      simp -dsimp (maxSteps := 2000000) only [Fa.F33, e9, rdM_of c1, c1, c3, Int.toNat_natCast, Nat.zero_add, VC.Now, VC.vc, VC.lib, VC.mapN_drewN, VC.mapB_drewN, VC.regQ, VC.loopK, VC.reg, VC.opP, VC.opS, VC.opZ, VC.nomulB, VC.pv, VC.thenF, VC.blkF, VC.retF, VC.resV, VC.oneV, VC.evo, VC.bin, VC.binI, VC.cmpI, VC.arithI, VC.ldv, VC.slv, VC.pickP, VC.holds, VC.chainOf, VC.look, VC.junk, VC.put, VC.eff, VC.callee, VC.pureB, VC.rdK, VC.rdKs, VC.okKs, VC.eqKs, VC.fillL, VC.putL, VC.stW, VC.stOK, VC.mixF, VC.setAll, Nat.reduceAdd, Nat.reduceSub, Nat.reduceMul, if_true, if_false, ↓reduceIte, forall_const, implies_true, reduceCtorEq, ne_eq, Nat.reduceBNe, Nat.reduceBEq, IntKind.signed, Nat.reduceEqDiff, Nat.reduceLeDiff, Nat.reduceLT, eq_self, Int.reduceEq, Int.reduceLT, Int.reduceLE, Int.reduceAdd, Int.reduceSub, VC.regC_nil, VC.regC_cons, VC.regCK_eq, VC.callQ, VC.tailQ, VC.goCall, VC.chStep]
      refine ⟨by omega, ?_⟩
      have hMj := KS.map hH.left hj hj
      refine CALL_of (keysFn_any (ib j) wx) fun w5 hw5 => ?_
      have hB5 : Below wx.heap.size wx w5 := by rw [hw5]; exact (Below.refl _ wx).alloc (Nat.le_refl _) _
      have hcb : w5.cell? ⟨wx.heap.size, 0, none⟩ = some (.map (some (ib j))) := by rw [hw5, cell_new rfl]; rfl
      have hs5 : w5.heap.size = wx.heap.size + 1 := by rw [hw5]; simp
      have hcj : cn j ≤ 46656 := Nat.le_trans (hcn j) (Nat.pow_le_pow_right (n := 6) (by omega) hR)
      have hMl := hMj.lt
      rw [VC.Now, VC.seqK_eq]
      simp -dsimp (maxSteps := 2000000) only [Fa.F33, VC.Now, VC.vc, VC.lib, VC.mapN_drewN, VC.mapB_drewN, VC.regQ, VC.loopK, VC.reg, VC.opP, VC.opS, VC.opZ, VC.nomulB, VC.pv, VC.thenF, VC.blkF, VC.retF, VC.resV, VC.oneV, VC.evo, VC.bin, VC.binI, VC.cmpI, VC.arithI, VC.ldv, VC.slv, VC.pickP, VC.holds, VC.chainOf, VC.look, VC.junk, VC.put, VC.eff, VC.callee, VC.pureB, VC.rdK, VC.rdKs, VC.okKs, VC.eqKs, VC.fillL, VC.putL, VC.stW, VC.stOK, VC.mixF, VC.setAll, Nat.reduceAdd, Nat.reduceSub, Nat.reduceMul, if_true, if_false, ↓reduceIte, forall_const, implies_true, reduceCtorEq, ne_eq, Nat.reduceBNe, Nat.reduceBEq, IntKind.signed, Nat.reduceEqDiff, Nat.reduceLeDiff, Nat.reduceLT, eq_self, Int.reduceEq, Int.reduceLT, Int.reduceLE, Int.reduceAdd, Int.reduceSub, VC.regC_nil, VC.regC_cons, VC.regCK_eq, VC.callQ, VC.tailQ, VC.goCall, VC.chStep]
      refine CALL_by (collectG_any _ 104 [.pointer (some ⟨wx.heap.size, 0, none⟩)] (fun q => q = wx.heap.size ∨ q = ib j) w5 (keys_iter (ib j) (cn j) (kn j) wx.heap.size (fun q => q = wx.heap.size ∨ q = ib j) w5 (hMj.below hB5) hcb (by omega) (Or.inl rfl) (Or.inr rfl)) (by kernel_rfl) (fun q hq => by rcases hq with h | h <;> omega)) ?_
      rintro _ w6 ⟨v6, vis, rfl, hvis, hO6, hA6⟩
      refine ⟨_, rfl, ?_⟩
      have hpos : 0 < vis.length := by
        obtain ⟨x, hx, hs⟩ := hMj.some_key (Nat.pos_of_ne_zero fun hc0 => by
          have hz := (hc0 ▸ hMj : MapV Try.prog EJ wx (ib j) 0 (kn j)).zero (hvf j hj)
          rw [hq j hj (val j) (hvf j hj)] at hz
          have : (hvO (hasV val k (crs g len) r j (val j))).isSome = true := hvO_some.2 ⟨j, hj, knB_self hj r, rfl⟩
          rw [hz] at this; cases this)
        exact List.length_pos_of_mem ((hvis.2 x).2 ⟨hx, hs⟩)
      have hlen : vis.length ≤ 100000 := by have := hvis.1; omega
      obtain ⟨Av, cv, ev6, hrv⟩ : ∃ Av cv, v6 = .slice Av vis.length cv ∧ Rd w6 Av (vis.map (Value.int .i64)) := by
        obtain ⟨A', c', rfl, h'⟩ := id hO6
        have h'' := hO6.rd
        rw [List.length_map] at *
        exact ⟨A', c', rfl, h''.2⟩
      subst ev6
      rw [VC.Now, VC.seqK_eq]
      simp -dsimp (maxSteps := 2000000) only [Fa.F33, VC.Now, VC.vc, VC.lib, VC.mapN_drewN, VC.mapB_drewN, VC.regQ, VC.loopK, VC.reg, VC.opP, VC.opS, VC.opZ, VC.nomulB, VC.pv, VC.thenF, VC.blkF, VC.retF, VC.resV, VC.oneV, VC.evo, VC.bin, VC.binI, VC.cmpI, VC.arithI, VC.ldv, VC.slv, VC.pickP, VC.holds, VC.chainOf, VC.look, VC.junk, VC.put, VC.eff, VC.callee, VC.pureB, VC.rdK, VC.rdKs, VC.okKs, VC.eqKs, VC.fillL, VC.putL, VC.stW, VC.stOK, VC.mixF, VC.setAll, Nat.reduceAdd, Nat.reduceSub, Nat.reduceMul, if_true, if_false, ↓reduceIte, forall_const, implies_true, reduceCtorEq, ne_eq, Nat.reduceBNe, Nat.reduceBEq, IntKind.signed, Nat.reduceEqDiff, Nat.reduceLeDiff, Nat.reduceLT, eq_self, Int.reduceEq, Int.reduceLT, Int.reduceLE, Int.reduceAdd, Int.reduceSub, VC.regC_nil, VC.regC_cons, VC.regCK_eq, VC.callQ, VC.tailQ, VC.goCall, VC.chStep]
      refine CALL_by (min_any Av cv vis w6 hrv hpos hlen) ?_
      rintro _ w7 ⟨⟨z, rfl, hz1, hz2⟩, hw7⟩
      subst hw7
      refine ⟨_, rfl, ?_⟩
      rw [VC.Now, VC.seqK_eq]
      simp -dsimp (maxSteps := 2000000) only [Fa.F33, VC.Now, VC.vc, VC.lib, VC.mapN_drewN, VC.mapB_drewN, VC.regQ, VC.loopK, VC.reg, VC.opP, VC.opS, VC.opZ, VC.nomulB, VC.pv, VC.thenF, VC.blkF, VC.retF, VC.resV, VC.oneV, VC.evo, VC.bin, VC.binI, VC.cmpI, VC.arithI, VC.ldv, VC.slv, VC.pickP, VC.holds, VC.chainOf, VC.look, VC.junk, VC.put, VC.eff, VC.callee, VC.pureB, VC.rdK, VC.rdKs, VC.okKs, VC.eqKs, VC.fillL, VC.putL, VC.stW, VC.stOK, VC.mixF, VC.setAll, Nat.reduceAdd, Nat.reduceSub, Nat.reduceMul, if_true, if_false, ↓reduceIte, forall_const, implies_true, reduceCtorEq, ne_eq, Nat.reduceBNe, Nat.reduceBEq, IntKind.signed, Nat.reduceEqDiff, Nat.reduceLeDiff, Nat.reduceLT, eq_self, Int.reduceEq, Int.reduceLT, Int.reduceLE, Int.reduceAdd, Int.reduceSub, VC.regC_nil, VC.regC_cons, VC.regCK_eq, VC.callQ, VC.tailQ, VC.goCall, VC.chStep]
      have hz : z = leastF val (knB k (crs g len) r j) (val j) k := by
        have hin : ∀ x, x ∈ vis ↔ (EJ.ok x ∧ hasV val k (crs g len) r j x) := fun x => (hvis.2 x).trans ⟨fun ⟨a, b⟩ => ⟨a, by rw [hq j hj x a] at b; exact hvO_some.1 b⟩, fun ⟨a, b⟩ => ⟨a, by rw [hq j hj x a]; exact hvO_some.2 b⟩⟩
        obtain ⟨p1, p2, p3⟩ := leastF_spec (val := val) (kn := knB k (crs g len) r j) (z := val j) k
        obtain ⟨_, i, hi, hki, hvi⟩ := (hin z).1 hz1
        have h3 := p2 i hi hki
        have h4 : z ≤ leastF val (knB k (crs g len) r j) (val j) k := by
          rcases p3 with h | ⟨i2, hi2, hk2, h⟩
          · rw [h]; exact hz2 _ ((hin _).2 ⟨hvf j hj, j, hj, knB_self hj r, rfl⟩)
          · rw [h]; exact hz2 _ ((hin _).2 ⟨hvf i2 hi2, i2, hi2, hk2, rfl⟩)
        omega
      have hH5 := hH.below hB5
      have hflt : ∀ q, foot (KS k k gk ib cn kn ++ [oOwn 3 1 j v ((List.range j).map fun j => .int .i64 (leastF val (knB k (crs g len) r j) (val j) k))]) q → q < wx.heap.size := fun q hq => (hH.foot_lt hq).2
      have hH6 := hH5.agree hA6 (fun q hq h => by have := hflt q hq; omega)
      have hB6 := hA6.to_below (hBx.trans (hB5.mono hH.base)) (by have := hH.base; omega) fun q hq => by have := hH.base; omega
      have gO : (KS k k gk ib cn kn ++ [oOwn 3 1 j v ((List.range j).map fun t => .int .i64 (leastF val (knB k (crs g len) r t) (val t) k))])[1 + k]? = some (oOwn 3 1 j v ((List.range j).map fun t => .int .i64 (leastF val (knB k (crs g len) r t) (val t) k))) := by
        rw [List.getElem?_append_right (by simp; omega), show 1 + k - (KS k k gk ib cn kn).length = 0 by simp; omega]; rfl
      have hO : OwnK w7 0 3 1 j v ((List.range j).map fun t => .int .i64 (leastF val (knB k (crs g len) r t) (val t) k)) := hH6.get (1 + k) gO
      refine OPW_appK (v := v) rfl Fa.apI23 rfl rfl rfl (by simp [Value.oneCell']) hO (Nat.zero_le _) (by omega) (by decide) fun v8 w8 ho8 hg8 hst8 => ?_
      have hnl : ((List.range j).map fun t => Value.int .i64 (leastF val (knB k (crs g len) r t) (val t) k)) ++ [.int .i64 z] = (List.range (j + 1)).map fun t => Value.int .i64 (leastF val (knB k (crs g len) r t) (val t) k) := by rw [List.range_succ, List.map_append, hz]; rfl
      rw [hnl] at ho8
      have st8 := hH6.grown (1 + k) gO ho8 hg8 hst8
      have hset : (KS k k gk ib cn kn ++ [oOwn 3 1 j v ((List.range j).map fun t => .int .i64 (leastF val (knB k (crs g len) r t) (val t) k))]).set (1 + k) (oOwn 3 1 (j + 1) v8 ((List.range (j + 1)).map fun t => Value.int .i64 (leastF val (knB k (crs g len) r t) (val t) k))) = KS k k gk ib cn kn ++ [oOwn 3 1 (j + 1) v8 ((List.range (j + 1)).map fun t => Value.int .i64 (leastF val (knB k (crs g len) r t) (val t) k))] := by
        rw [List.set_append_right _ _ (by simp; omega), show 1 + k - (KS k k gk ib cn kn).length = 0 by simp; omega]; rfl
      rw [hset] at st8
      rw [VC.Now, VC.seqK_eq]
      simp -dsimp (maxSteps := 2000000) only [Fa.F33, VC.Now, VC.vc, VC.lib, VC.mapN_drewN, VC.mapB_drewN, VC.regQ, VC.loopK, VC.reg, VC.opP, VC.opS, VC.opZ, VC.nomulB, VC.pv, VC.thenF, VC.blkF, VC.retF, VC.resV, VC.oneV, VC.evo, VC.bin, VC.binI, VC.cmpI, VC.arithI, VC.ldv, VC.slv, VC.pickP, VC.holds, VC.chainOf, VC.look, VC.junk, VC.put, VC.eff, VC.callee, VC.pureB, VC.rdK, VC.rdKs, VC.okKs, VC.eqKs, VC.fillL, VC.putL, VC.stW, VC.stOK, VC.mixF, VC.setAll, Nat.reduceAdd, Nat.reduceSub, Nat.reduceMul, if_true, if_false, ↓reduceIte, forall_const, implies_true, reduceCtorEq, ne_eq, Nat.reduceBNe, Nat.reduceBEq, IntKind.signed, Nat.reduceEqDiff, Nat.reduceLeDiff, Nat.reduceLT, eq_self, Int.reduceEq, Int.reduceLT, Int.reduceLE, Int.reduceAdd, Int.reduceSub, VC.regC_nil, VC.regC_cons, VC.regCK_eq, VC.callQ, VC.tailQ, VC.goCall, VC.chStep]
      exact ⟨fits_i64_nat (by omega), SAME.intro (by kernel_rfl), m3 - 1, by omega, j + 1, v8, by omega, rfl, hB6.trans (st8.below hH6), st8.hp⟩
    · obtain rfl : j = k := by omega
      have e9 : ((j : Int) < j) = False := eq_false (by omega)
      have hO : OwnK wx 0 3 1 j v ((List.range j).map fun t => .int .i64 (leastF val (knB j (crs g len) r t) (val t) j)) := hH.get (1 + j) (o := oOwn 3 1 j v ((List.range j).map fun t => .int .i64 (leastF val (knB j (crs g len) r t) (val t) j))) (by rw [List.getElem?_append_right (by simp; omega), show 1 + j - (KS j j gk ib cn kn).length = 0 by simp; omega]; rfl)
      obtain ⟨Av, cv, ev, hrv⟩ := sliceV hO
      simp -dsimp (maxSteps := 2000000) only [Fa.F33, e9, VC.Now, VC.vc, VC.lib, VC.mapN_drewN, VC.mapB_drewN, VC.regQ, VC.loopK, VC.reg, VC.opP, VC.opS, VC.opZ, VC.nomulB, VC.pv, VC.thenF, VC.blkF, VC.retF, VC.resV, VC.oneV, VC.evo, VC.bin, VC.binI, VC.cmpI, VC.arithI, VC.ldv, VC.slv, VC.pickP, VC.holds, VC.chainOf, VC.look, VC.junk, VC.put, VC.eff, VC.callee, VC.pureB, VC.rdK, VC.rdKs, VC.okKs, VC.eqKs, VC.fillL, VC.putL, VC.stW, VC.stOK, VC.mixF, VC.setAll, Nat.reduceAdd, Nat.reduceSub, Nat.reduceMul, if_true, if_false, ↓reduceIte, forall_const, implies_true, reduceCtorEq, ne_eq, Nat.reduceBNe, Nat.reduceBEq, IntKind.signed, Nat.reduceEqDiff, Nat.reduceLeDiff, Nat.reduceLT, eq_self, Int.reduceEq, Int.reduceLT, Int.reduceLE, Int.reduceAdd, Int.reduceSub, VC.regC_nil, VC.regC_cons, VC.regCK_eq, VC.callQ, VC.tailQ, VC.goCall, VC.chStep]
      have ev2 : v = .slice Av j cv := by rw [ev]; simp
      exact ⟨Av, cv, by rw [ev2], hrv, hBx⟩
end Go.Proofs.Ytelfmhiaafkimaa
