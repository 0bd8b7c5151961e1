/- What some who crash have said: the document's walk. -/
import Derived.Test.YtelfmhiaafkimaaFlood8
namespace Go.Proofs.Ytelfmhiaafkimaa
open Go Go.RowKit Go.VC
set_option linter.unusedSimpArgs false
set_option linter.unusedVariables false
theorem wrapF {x : Int} {a : Nat} (h : x = a) (ha : a ≤ 1000000) : IntKind.i64.wrap x = a := by
  rw [h]; exact fits_wrap (fits_i64 (by omega) (by omega))
noncomputable abbrev TB (n g : Nat) (tab : Nat → Nat → Bool) : List Ob := [oRecs g n n fun x => rowBo n (tab x)]
def TQ (n : Nat) (tab spec : Nat → Nat → Bool) : Prop := ∀ j x, j < n → x < n → tab j x = spec j x
set_option maxRecDepth 8000 in
set_option maxHeartbeats 8000000 in
noncomputable def floodBut : { P : Prop × Prop // P.1 ∧ P.2 → ∀ (A0 : Option Addr) (n c0 R : Nat) (A : Option Addr) (len c : Nat) (val : Nat → Int) (g : Nat → CrashC) (w : World) (hv : RdT w A0 n 1 (fun i => [.int .i64 (val i)])) (hr : RdT w A len 3 (fun i => crL (g i))) (ht : ∀ i, (g i).to < 4294967296) (h1 : 1 ≤ n) (hn : n ≤ 6) (hR : R ≤ 6) (hl : len ≤ 6),
    Calls Try.prog 35 #[.slice A0 n c0, .int .i64 R, .slice A len c] w fun e w' => ∃ Ar ca, e = .returned (.slice Ar n ca) ∧ Rd w' Ar ((List.range n).map fun j => .int .i64 (leastF val (knB n (crs g len) R j) (val j) n)) ∧ Below w.heap.size w w' } := by
  refine ⟨(?P3, ?P4), fun HH => ?body⟩
  case body =>
   intro A0 n c0 R A len c val g w hv hr ht h1 hn hR hl
   have hnn36 : n * n ≤ 36 := Nat.mul_le_mul hn hn
   have hnn : (n : Int) * n = ((n * n : Nat) : Int) := by simp
   have ej : ∀ j : Nat, (j : Int) * n = ((j * n : Nat) : Int) := fun j => by simp
   have ejx : ∀ j x : Nat, ((j * n : Nat) : Int) + (x : Int) = ((j * n + x : Nat) : Int) := fun j x => by simp
   refine calls_vc (rs := [.tmp 6]) Fa.mix Try.func35 rfl Try.ntmps35 rfl (by kernel_rfl) (Nat.le_of_ble_eq_true rfl) ?_
   simp -dsimp (maxSteps := 2000000) only [Fa.F35, hnn, VC.Now, VC.vc, VC.lib, VC.mapN_drewN, VC.mapB_drewN, VC.regQ, VC.loopK, VC.reg, VC.opP, VC.opS, VC.opZ, VC.nomulB, VC.pv, VC.thenF, VC.blkF, VC.retF, VC.resV, VC.oneV, VC.evo, VC.bin, VC.binI, VC.cmpI, VC.arithI, VC.ldv, VC.slv, VC.pickP, VC.holds, VC.chainOf, VC.look, VC.junk, VC.put, VC.eff, VC.callee, VC.pureB, VC.rdK, VC.rdKs, VC.okKs, VC.eqKs, VC.fillL, VC.putL, VC.stW, VC.stOK, VC.mixF, VC.setAll, Nat.reduceAdd, Nat.reduceSub, Nat.reduceMul, if_true, if_false, ↓reduceIte, forall_const, implies_true, reduceCtorEq, ne_eq, Nat.reduceBNe, Nat.reduceBEq, IntKind.signed, Nat.reduceEqDiff, Nat.reduceLeDiff, Nat.reduceLT, eq_self, Int.reduceEq, Int.reduceLT, Int.reduceLE, Int.reduceAdd, Int.reduceSub, VC.regC_nil, VC.regC_cons, VC.regCK_eq, VC.callQ, VC.tailQ, VC.goCall, VC.chStep]
   refine ⟨fits_i64 (by omega) (by omega), ?_⟩
   refine OPW_makeK (n := n * n) (base := 0) rfl Fa.apI45 rfl rfl rfl rfl (by omega) (by omega) (Nat.zero_le _) fun w4 ho4 hg4 => ?_
   have hB4 : Below w.heap.size w w4 := (Below.refl _ _).grown hg4 (Nat.le_refl _) fun k hk => by cases hk
   have hl4 : w.heap.size < w4.heap.size := (ho4.lt (g := w.heap.size) rfl).2
   have hH0 := bo_made (B := w.heap.size) hB4 (Nat.le_refl _) rfl ho4 hl4
   rw [VC.Now, VC.seqK_eq]
   clear ho4 hg4 hl4
   generalize hgk : w.heap.size = gk at hH0 hB4 ⊢
   simp -dsimp (maxSteps := 2000000) only [Fa.F35, VC.Now, VC.vc, VC.lib, VC.mapN_drewN, VC.mapB_drewN, VC.regQ, VC.loopK, VC.reg, VC.opP, VC.opS, VC.opZ, VC.nomulB, VC.pv, VC.thenF, VC.blkF, VC.retF, VC.resV, VC.oneV, VC.evo, VC.bin, VC.binI, VC.cmpI, VC.arithI, VC.ldv, VC.slv, VC.pickP, VC.holds, VC.chainOf, VC.look, VC.junk, VC.put, VC.eff, VC.callee, VC.pureB, VC.rdK, VC.rdKs, VC.okKs, VC.eqKs, VC.fillL, VC.putL, VC.stW, VC.stOK, VC.mixF, VC.setAll, Nat.reduceAdd, Nat.reduceSub, Nat.reduceMul, if_true, if_false, ↓reduceIte, forall_const, implies_true, reduceCtorEq, ne_eq, Nat.reduceBNe, Nat.reduceBEq, IntKind.signed, Nat.reduceEqDiff, Nat.reduceLeDiff, Nat.reduceLT, eq_self, Int.reduceEq, Int.reduceLT, Int.reduceLE, Int.reduceAdd, Int.reduceSub, VC.regC_nil, VC.regC_cons, VC.regCK_eq, VC.callQ, VC.tailQ, VC.goCall, VC.chStep]
   refine loop_slots Fa.mix [9] [28, 29, 30, 31, 32, 33, 34, 35, 36, 37, 38, 39] (fun m vs wx => ∃ (k : Nat) (tab : Nat → Nat → Bool), k + m = n ∧ vs = [.int .i64 k] ∧ Below gk w wx ∧ Hp gk (TB n gk tab) wx ∧ TQ n tab (fun j x => decide (x = j) && decide (j < k))) n (by kernel_rfl) rfl
     ⟨0, _, by omega, rfl, hB4, hH0, fun j x hj hx => by simp⟩ ?_
   clear hH0 hB4
   rintro m vs u2 wx ⟨k, tab, hkm, rfl, hBx, hH, hq⟩
   by_cases hk : k < n
   · have e7 : ((k : Int) < n) = True := eq_true (by omega)
     have hRc : Recs wx gk n n (fun x => rowBo n (tab x)) := hH.get 0 rfl
     have c1 := hRc.at hk hk (rowBo_at hk)
     have c2 := hRc.soft hk hk
     have c3 := hRc.1
     have k1 : (wx.cell? ⟨gk, k * n + k, none⟩).isSome = true := by rw [c1]; rfl
     have st := bo_set hH 0 rfl hk hk
     have w1 := ej k
     have w2 := ejx k k
     have hix := idx_ltB hk hk
     simp -dsimp (maxSteps := 2000000) only [Fa.F35, e7, w1, w2, c2, c3, k1, Int.toNat_natCast, Nat.zero_add, VC.Now, VC.vc, VC.lib, VC.mapN_drewN, VC.mapB_drewN, VC.regQ, VC.loopK, VC.reg, VC.opP, VC.opS, VC.opZ, VC.nomulB, VC.pv, VC.thenF, VC.blkF, VC.retF, VC.resV, VC.oneV, VC.evo, VC.bin, VC.binI, VC.cmpI, VC.arithI, VC.ldv, VC.slv, VC.pickP, VC.holds, VC.chainOf, VC.look, VC.junk, VC.put, VC.eff, VC.callee, VC.pureB, VC.rdK, VC.rdKs, VC.okKs, VC.eqKs, VC.fillL, VC.putL, VC.stW, VC.stOK, VC.mixF, VC.setAll, Nat.reduceAdd, Nat.reduceSub, Nat.reduceMul, if_true, if_false, ↓reduceIte, forall_const, implies_true, reduceCtorEq, ne_eq, Nat.reduceBNe, Nat.reduceBEq, IntKind.signed, Nat.reduceEqDiff, Nat.reduceLeDiff, Nat.reduceLT, eq_self, Int.reduceEq, Int.reduceLT, Int.reduceLE, Int.reduceAdd, Int.reduceSub, VC.regC_nil, VC.regC_cons, VC.regCK_eq, VC.callQ, VC.tailQ, VC.goCall, VC.chStep]
     refine ⟨fits_i64 (by omega) (by omega), fits_i64 (by omega) (by omega), ⟨by omega, by omega⟩, fits_i64_nat (by omega), SAME.intro (by kernel_rfl), m - 1, by omega, k + 1, _, by omega, rfl, hBx.trans (st.below hH), st.hp, fun j x hj hx => ?_⟩
     show setBo tab k k j x = (decide (x = j) && decide (j < k + 1))
     unfold setBo
     by_cases e : j = k ∧ x = k
     · rw [if_pos e, e.1, e.2]; simp
     · rw [if_neg e, show tab j x = (decide (x = j) && decide (j < k)) from hq j x hj hx]
       by_cases e2 : x = j
       · rw [decide_eq_true e2, Bool.true_and, Bool.true_and]
         exact decide_eq_decide.2 ⟨fun h => by omega, fun h => by omega⟩
       · rw [decide_eq_false e2, Bool.false_and, Bool.false_and]
   obtain rfl : k = n := by omega
   have e7 : ((k : Int) < k) = False := eq_false (by omega)
   have hq0 : TQ k tab (knB k (crs g len) 0) := fun j x hj hx => by
     rw [show tab j x = (decide (x = j) && decide (j < k)) from hq j x hj hx, decide_eq_true hj, Bool.and_true]; rfl
   simp -dsimp (maxSteps := 2000000) only [Fa.F35, e7, VC.Now, VC.vc, VC.lib, VC.mapN_drewN, VC.mapB_drewN, VC.regQ, VC.loopK, VC.reg, VC.opP, VC.opS, VC.opZ, VC.nomulB, VC.pv, VC.thenF, VC.blkF, VC.retF, VC.resV, VC.oneV, VC.evo, VC.bin, VC.binI, VC.cmpI, VC.arithI, VC.ldv, VC.slv, VC.pickP, VC.holds, VC.chainOf, VC.look, VC.junk, VC.put, VC.eff, VC.callee, VC.pureB, VC.rdK, VC.rdKs, VC.okKs, VC.eqKs, VC.fillL, VC.putL, VC.stW, VC.stOK, VC.mixF, VC.setAll, Nat.reduceAdd, Nat.reduceSub, Nat.reduceMul, if_true, if_false, ↓reduceIte, forall_const, implies_true, reduceCtorEq, ne_eq, Nat.reduceBNe, Nat.reduceBEq, IntKind.signed, Nat.reduceEqDiff, Nat.reduceLeDiff, Nat.reduceLT, eq_self, Int.reduceEq, Int.reduceLT, Int.reduceLE, Int.reduceAdd, Int.reduceSub, VC.regC_nil, VC.regC_cons, VC.regCK_eq, VC.callQ, VC.tailQ, VC.goCall, VC.chStep]
   refine loop_slots Fa.mix [10, 8] [11, 12, 13, 14, 16, 17, 40, 41, 42, 43, 44, 45, 46, 47, 48, 49, 50, 51, 52, 53, 54, 55, 56, 57, 58, 59, 60, 61, 62, 63, 64, 65, 66, 67, 68, 69, 70, 71, 72, 73, 74, 75, 76, 77, 78, 79, 80, 81, 82, 83, 84, 85, 86, 87, 88, 89, 90, 91, 92, 93, 94, 95, 96, 97, 98, 99, 100, 101, 102, 103, 104, 105, 106, 107, 108, 109, 110, 111, 112, 113, 114, 115, 116, 117] (fun m vs wx => ∃ (r gq : Nat) (tab : Nat → Nat → Bool), r + m = R ∧ vs = [.int .i64 r, .slice (some ⟨gq, 0, none⟩) (k * k) (k * k)] ∧ Below gk w wx ∧ Hp gk (TB k gq tab) wx ∧ TQ k tab (knB k (crs g len) r)) R (by kernel_rfl) rfl
     ⟨0, gk, tab, by omega, rfl, hBx, hH, hq0⟩ ?_
   clear hBx hH hq hq0
   rintro m vs u2 wx ⟨r, gq, tab, hrm, rfl, hBx, hH, hq⟩
   by_cases hr2 : r < R
   · have e8 : ((r : Int) < R) = True := eq_true (by omega)
     simp -dsimp (maxSteps := 2000000) only [Fa.F35, e8, hnn, VC.Now, VC.vc, VC.lib, VC.mapN_drewN, VC.mapB_drewN, VC.regQ, VC.loopK, VC.reg, VC.opP, VC.opS, VC.opZ, VC.nomulB, VC.pv, VC.thenF, VC.blkF, VC.retF, VC.resV, VC.oneV, VC.evo, VC.bin, VC.binI, VC.cmpI, VC.arithI, VC.ldv, VC.slv, VC.pickP, VC.holds, VC.chainOf, VC.look, VC.junk, VC.put, VC.eff, VC.callee, VC.pureB, VC.rdK, VC.rdKs, VC.okKs, VC.eqKs, VC.fillL, VC.putL, VC.stW, VC.stOK, VC.mixF, VC.setAll, Nat.reduceAdd, Nat.reduceSub, Nat.reduceMul, if_true, if_false, ↓reduceIte, forall_const, implies_true, reduceCtorEq, ne_eq, Nat.reduceBNe, Nat.reduceBEq, IntKind.signed, Nat.reduceEqDiff, Nat.reduceLeDiff, Nat.reduceLT, eq_self, Int.reduceEq, Int.reduceLT, Int.reduceLE, Int.reduceAdd, Int.reduceSub, VC.regC_nil, VC.regC_cons, VC.regCK_eq, VC.callQ, VC.tailQ, VC.goCall, VC.chStep]
     refine ⟨fits_i64 (by omega) (by omega), ?_⟩
     refine OPW_makeK (n := k * k) (base := 0) rfl Fa.apI45 rfl rfl rfl rfl (by omega) (by omega) (Nat.zero_le _) fun w4 ho4 hg4 => ?_
     have hB4 : Below wx.heap.size wx w4 := (Below.refl _ _).grown hg4 (Nat.le_refl _) fun q hq => by cases hq
     have hl4 : wx.heap.size < w4.heap.size := (ho4.lt (g := wx.heap.size) rfl).2
     have hBw := hBx.trans (hB4.mono hH.base)
     have hN := bo_made (B := wx.heap.size) hB4 (Nat.le_refl _) rfl ho4 hl4
     have hH2 : Hp gk (TB k wx.heap.size (fun _ _ => false) ++ TB k gq tab) w4 := by
       refine ⟨fun o ho => (List.mem_append.1 ho).elim (fun h => ⟨(hN.1 o h).1, fun q hq => Nat.le_trans hH.base ((hN.1 o h).2 q hq)⟩) ((hH.below hB4).1 o), List.pairwise_append.2 ⟨hN.2, (hH.below hB4).2, fun a ha b hb q h3 h4 => ?_⟩, (hH.below hB4).base⟩
       have h5 := (hN.1 a ha).2 q h3
       have h6 := (hH.foot_lt ⟨b, hb, h4⟩).2
       omega
     rw [VC.Now, VC.seqK_eq]
     clear ho4 hg4 hB4 hl4 hN hH hBx
     generalize wx.heap.size = g2 at hH2 ⊢
     simp -dsimp (maxSteps := 2000000) only [Fa.F35, VC.Now, VC.vc, VC.lib, VC.mapN_drewN, VC.mapB_drewN, VC.regQ, VC.loopK, VC.reg, VC.opP, VC.opS, VC.opZ, VC.nomulB, VC.pv, VC.thenF, VC.blkF, VC.retF, VC.resV, VC.oneV, VC.evo, VC.bin, VC.binI, VC.cmpI, VC.arithI, VC.ldv, VC.slv, VC.pickP, VC.holds, VC.chainOf, VC.look, VC.junk, VC.put, VC.eff, VC.callee, VC.pureB, VC.rdK, VC.rdKs, VC.okKs, VC.eqKs, VC.fillL, VC.putL, VC.stW, VC.stOK, VC.mixF, VC.setAll, Nat.reduceAdd, Nat.reduceSub, Nat.reduceMul, if_true, if_false, ↓reduceIte, forall_const, implies_true, reduceCtorEq, ne_eq, Nat.reduceBNe, Nat.reduceBEq, IntKind.signed, Nat.reduceEqDiff, Nat.reduceLeDiff, Nat.reduceLT, eq_self, Int.reduceEq, Int.reduceLT, Int.reduceLE, Int.reduceAdd, Int.reduceSub, VC.regC_nil, VC.regC_cons, VC.regCK_eq, VC.callQ, VC.tailQ, VC.goCall, VC.chStep]
     refine loop_slots Fa.mix [12] [13, 14, 16, 17, 49, 50, 51, 52, 53, 54, 55, 56, 57, 58, 59, 60, 61, 62, 63, 64, 65, 66, 67, 68, 69, 70, 71, 72, 73, 74, 75, 76, 77, 78, 79, 80, 81, 82, 83, 84, 85, 86, 87, 88, 89, 90, 91, 92, 93, 94, 95, 96, 97, 98, 99, 100, 101, 102, 103, 104, 105, 106, 107, 108, 109, 110, 111, 112, 113, 114, 115, 116] (fun m vs wx => ∃ (j : Nat) (tb : Nat → Nat → Bool), j + m = k ∧ vs = [.int .i64 j] ∧ Below gk w wx ∧ Hp gk (TB k g2 tb ++ TB k gq tab) wx ∧ TQ k tb (fun j' x => decide (j' < j) && knB k (crs g len) (r + 1) j' x)) k (by kernel_rfl) rfl
       ⟨0, _, by omega, rfl, hBw, hH2, fun j x hj hx => by simp⟩ ?_
     clear hBw hH2
     rintro m3 vs u3 wx ⟨j, tb, hjm, rfl, hBx, hH, hq3⟩
     by_cases hj : j < k
     · have e9 : ((j : Int) < k) = True := eq_true (by omega)
       simp -dsimp (maxSteps := 2000000) only [Fa.F35, e9, VC.Now, VC.vc, VC.lib, VC.mapN_drewN, VC.mapB_drewN, VC.regQ, VC.loopK, VC.reg, VC.opP, VC.opS, VC.opZ, VC.nomulB, VC.pv, VC.thenF, VC.blkF, VC.retF, VC.resV, VC.oneV, VC.evo, VC.bin, VC.binI, VC.cmpI, VC.arithI, VC.ldv, VC.slv, VC.pickP, VC.holds, VC.chainOf, VC.look, VC.junk, VC.put, VC.eff, VC.callee, VC.pureB, VC.rdK, VC.rdKs, VC.okKs, VC.eqKs, VC.fillL, VC.putL, VC.stW, VC.stOK, VC.mixF, VC.setAll, Nat.reduceAdd, Nat.reduceSub, Nat.reduceMul, if_true, if_false, ↓reduceIte, forall_const, implies_true, reduceCtorEq, ne_eq, Nat.reduceBNe, Nat.reduceBEq, IntKind.signed, Nat.reduceEqDiff, Nat.reduceLeDiff, Nat.reduceLT, eq_self, Int.reduceEq, Int.reduceLT, Int.reduceLE, Int.reduceAdd, Int.reduceSub, VC.regC_nil, VC.regC_cons, VC.regCK_eq, VC.callQ, VC.tailQ, VC.goCall, VC.chStep]
       refine loop_slots Fa.mix [13] [14, 16, 17, 54, 55, 56, 57, 58, 59, 60, 61, 62, 63, 64, 65, 66, 67, 68, 69, 70, 71, 72, 73, 74, 75, 76, 77, 78, 79, 80, 81, 82, 83, 84, 85, 86, 87, 88, 89, 90, 91, 92, 93, 94, 95, 96, 97, 98, 99, 100, 101, 102, 103, 104, 105, 106, 107, 108, 109, 110, 111, 112, 113, 114, 115, 116] (fun m vs wx => ∃ (t : Nat) (tb : Nat → Nat → Bool), t + m = k ∧ vs = [.int .i64 t] ∧ Below gk w wx ∧ Hp gk (TB k g2 tb ++ TB k gq tab) wx ∧ TQ k tb (fun j' x => (decide (j' < j) && knB k (crs g len) (r + 1) j' x) || (decide (j' = j) && (List.range t).any fun s => (decide (s = j) || sendsB (crs g len) s j r) && knB k (crs g len) r s x))) k (by kernel_rfl) rfl
         ⟨0, tb, by omega, rfl, hBx, hH, fun j' x hj' hx => by rw [hq3 j' x hj' hx]; simp⟩ ?_
       clear hBx hH hq3
       rintro m4 vs u4 wx ⟨t, tb, htm, rfl, hBx, hH, hq3⟩
       by_cases ht2 : t < k
       · rename_i q1 q2 q3 q4 q5 q6 q7 q8
         revert A0 c0 R A len c val g w q1 gk q2 q3 q4 k q5 m u2 q6 r gq tab w4 g2 m3 u3 q7 j q8 m4 u4 wx t tb
         exact HH.1
       · obtain rfl : t = k := by omega
         have e10 : ((t : Int) < t) = False := eq_false (by omega)
         simp -dsimp (maxSteps := 2000000) only [Fa.F35, e10, VC.Now, VC.vc, VC.lib, VC.mapN_drewN, VC.mapB_drewN, VC.regQ, VC.loopK, VC.reg, VC.opP, VC.opS, VC.opZ, VC.nomulB, VC.pv, VC.thenF, VC.blkF, VC.retF, VC.resV, VC.oneV, VC.evo, VC.bin, VC.binI, VC.cmpI, VC.arithI, VC.ldv, VC.slv, VC.pickP, VC.holds, VC.chainOf, VC.look, VC.junk, VC.put, VC.eff, VC.callee, VC.pureB, VC.rdK, VC.rdKs, VC.okKs, VC.eqKs, VC.fillL, VC.putL, VC.stW, VC.stOK, VC.mixF, VC.setAll, Nat.reduceAdd, Nat.reduceSub, Nat.reduceMul, if_true, if_false, ↓reduceIte, forall_const, implies_true, reduceCtorEq, ne_eq, Nat.reduceBNe, Nat.reduceBEq, IntKind.signed, Nat.reduceEqDiff, Nat.reduceLeDiff, Nat.reduceLT, eq_self, Int.reduceEq, Int.reduceLT, Int.reduceLE, Int.reduceAdd, Int.reduceSub, VC.regC_nil, VC.regC_cons, VC.regCK_eq, VC.callQ, VC.tailQ, VC.goCall, VC.chStep]
         refine ⟨fits_i64_nat (by omega), SAME.intro (by kernel_rfl), m3 - 1, by omega, j + 1, tb, by omega, rfl, hBx, hH, fun j' x hj' hx => ?_⟩
         rw [hq3 j' x hj' hx]
         show ((decide (j' < j) && knB t (crs g len) (r + 1) j' x) || (decide (j' = j) && knB t (crs g len) (r + 1) j x)) = (decide (j' < j + 1) && knB t (crs g len) (r + 1) j' x)
         by_cases e : j' = j
         · subst e; simp
         · rw [decide_eq_false e, Bool.false_and, Bool.or_false, show decide (j' < j + 1) = decide (j' < j) from decide_eq_decide.2 ⟨fun h => by omega, fun h => by omega⟩]
     · obtain rfl : j = k := by omega
       have e9 : ((j : Int) < j) = False := eq_false (by omega)
       simp -dsimp (maxSteps := 2000000) only [Fa.F35, e9, VC.Now, VC.vc, VC.lib, VC.mapN_drewN, VC.mapB_drewN, VC.regQ, VC.loopK, VC.reg, VC.opP, VC.opS, VC.opZ, VC.nomulB, VC.pv, VC.thenF, VC.blkF, VC.retF, VC.resV, VC.oneV, VC.evo, VC.bin, VC.binI, VC.cmpI, VC.arithI, VC.ldv, VC.slv, VC.pickP, VC.holds, VC.chainOf, VC.look, VC.junk, VC.put, VC.eff, VC.callee, VC.pureB, VC.rdK, VC.rdKs, VC.okKs, VC.eqKs, VC.fillL, VC.putL, VC.stW, VC.stOK, VC.mixF, VC.setAll, Nat.reduceAdd, Nat.reduceSub, Nat.reduceMul, if_true, if_false, ↓reduceIte, forall_const, implies_true, reduceCtorEq, ne_eq, Nat.reduceBNe, Nat.reduceBEq, IntKind.signed, Nat.reduceEqDiff, Nat.reduceLeDiff, Nat.reduceLT, eq_self, Int.reduceEq, Int.reduceLT, Int.reduceLE, Int.reduceAdd, Int.reduceSub, VC.regC_nil, VC.regC_cons, VC.regCK_eq, VC.callQ, VC.tailQ, VC.goCall, VC.chStep]
       exact ⟨fits_i64_nat (by omega), SAME.intro (by kernel_rfl), m - 1, by omega, r + 1, g2, tb, by omega, rfl, hBx, hH.left, fun j' x hj' hx => by rw [hq3 j' x hj' hx]; simp [hj']⟩
   · rename_i q1 q2 q3 q4
     revert A0 c0 R A len c val g w w4 gk q1 q2 q3 k q4 m u2 wx r gq tab
     exact HH.2
end Go.Proofs.Ytelfmhiaafkimaa
