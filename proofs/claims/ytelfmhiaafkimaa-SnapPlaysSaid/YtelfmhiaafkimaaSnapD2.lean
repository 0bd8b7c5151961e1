/- A picture of what moves, the document's: a process notes. -/
import Derived.Test.YtelfmhiaafkimaaSnapD1
namespace Go.Proofs.Ytelfmhiaafkimaa
open Go Go.RowKit Go.VC
set_option linter.unusedSimpArgs false
set_option linter.unusedVariables false
def dnote (n i : Nat) (p : DP) : DP := if 0 ≤ p.own i then p else { p with own := upd p.own i (p.money i), lt := fun t => if t % n = i then stopS (p.lt t) else if t / n = i then markS (p.lt t) else p.lt t }
def dnoteJ (n i J : Nat) (lt : Nat → Lin) : Nat → Lin := fun t => if t % n = i then (if t / n < J then stopS (lt t) else lt t) else if t / n = i ∧ t % n < J then markS (lt t) else lt t
/-- Half a round. -/
theorem dnoteJ_stop {n i j : Nat} {lt : Nat → Lin} (hi : i < n) (hj : j < n) : upd (dnoteJ n i j lt) (j * n + i) (stopS (lt (j * n + i))) = fun t => if t % n = i then (if t / n < j + 1 then stopS (lt t) else lt t) else if t / n = i ∧ t % n < j then markS (lt t) else lt t := by
  funext t
  by_cases e : t = j * n + i
  · subst e
    rw [upd_same, (idx_div hi).1, (idx_div hi).2, if_pos rfl, if_pos (by omega)]
  · rw [upd_other e]
    unfold dnoteJ
    by_cases h1 : t % n = i
    · have h2 : t / n ≠ j := fun h2 => e ((tdiv hj hi t).2 ⟨h2, h1⟩)
      rw [if_pos h1, if_pos h1]
      exact ifc ⟨fun h => by omega, fun h => by omega⟩
    · rw [if_neg h1, if_neg h1]
theorem dnoteJ_mark {n i j : Nat} {lt : Nat → Lin} (hi : i < n) (hj : j < n) (hij : j ≠ i) : upd (fun t => if t % n = i then (if t / n < j + 1 then stopS (lt t) else lt t) else if t / n = i ∧ t % n < j then markS (lt t) else lt t) (i * n + j) (markS (lt (i * n + j))) = dnoteJ n i (j + 1) lt := by
  funext t
  unfold dnoteJ
  by_cases e : t = i * n + j
  · subst e
    rw [upd_same, (idx_div hj).1, (idx_div hj).2, if_neg hij, if_pos ⟨rfl, by omega⟩]
  · rw [upd_other e]
    by_cases h1 : t % n = i
    · rw [if_pos h1, if_pos h1]
    · rw [if_neg h1, if_neg h1]
      exact ifc ⟨fun h => ⟨h.1, by omega⟩, fun h => ⟨h.1, by
        have : t % n ≠ j := fun h2 => e ((tdiv hi hj t).2 ⟨h.1, h2⟩)
        omega⟩⟩
theorem dnoteJ_self {n i : Nat} {lt : Nat → Lin} : (fun t => if t % n = i then (if t / n < i + 1 then stopS (lt t) else lt t) else if t / n = i ∧ t % n < i then markS (lt t) else lt t) = dnoteJ n i (i + 1) lt := by
  funext t
  unfold dnoteJ
  by_cases h1 : t % n = i
  · rw [if_pos h1, if_pos h1]
  · rw [if_neg h1, if_neg h1]
    exact ifc ⟨fun h => ⟨h.1, by omega⟩, fun h => ⟨h.1, by omega⟩⟩
theorem dnoteJ_zero {n i : Nat} {lt : Nat → Lin} : dnoteJ n i 0 lt = lt := by
  funext t
  unfold dnoteJ
  split
  · rw [if_neg (Nat.not_lt_zero _)]
  · rw [if_neg (fun h => Nat.not_lt_zero _ h.2)]
theorem dnoteJ_all {n i : Nat} {lt : Nat → Lin} {t : Nat} (ht : t < n * n) : dnoteJ n i n lt t = if t % n = i then stopS (lt t) else if t / n = i then markS (lt t) else lt t := by
  unfold dnoteJ
  have h1 : t / n < n := Nat.div_lt_of_lt_mul ht
  have hn0 : 0 < n := by
    rcases Nat.eq_zero_or_pos n with e | e
    · subst e; exact absurd ht (Nat.not_lt_zero t)
    · exact e
  have h2 : t % n < n := Nat.mod_lt _ hn0
  rw [if_pos h1]
  by_cases h3 : t % n = i
  · rw [if_pos h3, if_pos h3]
  · rw [if_neg h3, if_neg h3]
    exact ifc ⟨fun h => h.1, fun h => ⟨h, h2⟩⟩
section
variable {B n : Nat} {a : DA} {p : DP} {sv : Nat → Value} {vc bv : Value} {dn : Bool} {w : World}
theorem DEq.st {p' p'' : DP} {L : List Ob} {w' : World} (h : DEq n p' p'') (st : St B L w (DObs n a p' sv vc bv dn) w') : St B L w (DObs n a p'' sv vc bv dn) w' := ⟨h.hp st.hp, st.agree, fun g hg => st.foot g (foot_congr (by
  show List.map Ob.blk (headD n a p'' sv vc bv dn ++ fam (n * n) (senF p''.lt sv)) = List.map Ob.blk (headD n a p' sv vc bv dn ++ fam (n * n) (senF p'.lt sv))
  rw [List.map_append, List.map_append]
  congr 1
  unfold fam
  rw [List.map_map, List.map_map]
  rfl) hg)⟩
set_option maxRecDepth 8000 in
set_option maxHeartbeats 4000000 in
theorem dnote_any (h : Hp B (DObs n a p sv vc bv dn) w) {i : Nat} (hi : i < n) (hn : n ≤ 6) (hl : ∀ t, (p.lt t).sent.length ≤ 50000) :
    Calls Try.prog 95 #[iV i, iV n, ptrV a.ob, .slice (some ⟨a.gl, 0, none⟩) (n * n) (n * n)] w fun e w' => e = .returned (.tuple #[]) ∧ ∃ sv', St B (DObs n a p sv vc bv dn) w (DObs n a (dnote n i p) sv' vc bv dn) w' := by
  have hnn36 : n * n ≤ 36 := Nat.mul_le_mul hn hn
  have bo : Box w a.ob [vc, .slice (some ⟨a.gm, 0, none⟩) n a.cm, .slice (some ⟨a.go, 0, none⟩) n a.co, bv, .bool dn] := h.get 0 rfl
  have m1 := bo.at (i := 1) rfl
  have m2 := bo.at (i := 2) rfl
  have hol := bo.1
  have bm : Box w a.gm ((List.range n).map fun i => iV (p.money i)) := h.get 1 rfl
  have bg : Box w a.go ((List.range n).map fun i => iV (p.own i)) := h.get 2 rfl
  have c0 : w.cell? ⟨a.gm, i, none⟩ = some (iV (p.money i)) := bm.at (i := i) (by simp [hi])
  have c1 : w.cell? ⟨a.go, i, none⟩ = some (iV (p.own i)) := bg.at (i := i) (by simp [hi])
  have hml := bm.1
  have hgl := bg.1
  refine calls_vc (rs := []) Fa.mix Try.func95 rfl Try.ntmps95 rfl (by kernel_rfl) (Nat.le_of_ble_eq_true rfl) ?_
  by_cases ho : 0 ≤ p.own i
  · have e1 := eq_true ho
    have hr : dnote n i p = p := by unfold dnote; rw [if_pos ho]
    rw [hr]
    simp -dsimp (maxSteps := 2000000) only [Fa.F95, rdSA_of m2, rdSN_of m2, rdSC_of m2, m2, rdI_of c1, c1, hol, hgl, e1, Int.toNat_natCast, Nat.zero_add, VC.Now, VC.vc, VC.lib, VC.mapN_drewN, VC.mapB_drewN, VC.regQ, VC.loopK, VC.reg, VC.opP, VC.opS, VC.opZ, VC.nomulB, VC.pv, VC.thenF, VC.blkF, VC.retF, VC.resV, VC.oneV, VC.evo, VC.bin, VC.binI, VC.cmpI, VC.arithI, VC.ldv, VC.slv, VC.pickP, VC.holds, VC.chainOf, VC.look, VC.junk, VC.put, VC.eff, VC.callee, VC.pureB, VC.rdK, VC.rdKs, VC.okKs, VC.eqKs, VC.fillL, VC.putL, VC.stW, VC.stOK, VC.mixF, VC.setAll, Nat.reduceAdd, Nat.reduceSub, Nat.reduceMul, if_true, if_false, ↓reduceIte, forall_const, implies_true, reduceCtorEq, ne_eq, Nat.reduceBNe, Nat.reduceBEq, IntKind.signed, Nat.reduceEqDiff, Nat.reduceLeDiff, Nat.reduceLT, eq_self, Int.reduceEq, Int.reduceLT, Int.reduceLE, Int.reduceAdd, Int.reduceSub, VC.regC_nil, VC.regC_cons, VC.regCK_eq, VC.callQ, VC.tailQ, VC.goCall, VC.chStep]
    exact ⟨by omega, sv, St.refl h⟩
  have e1 := eq_false ho
  simp -dsimp (maxSteps := 2000000) only [Fa.F95, rdSA_of m2, rdSN_of m2, rdSC_of m2, m2, rdI_of c1, c1, hol, hgl, e1, Int.toNat_natCast, Nat.zero_add, VC.Now, VC.vc, VC.lib, VC.mapN_drewN, VC.mapB_drewN, VC.regQ, VC.loopK, VC.reg, VC.opP, VC.opS, VC.opZ, VC.nomulB, VC.pv, VC.thenF, VC.blkF, VC.retF, VC.resV, VC.oneV, VC.evo, VC.bin, VC.binI, VC.cmpI, VC.arithI, VC.ldv, VC.slv, VC.pickP, VC.holds, VC.chainOf, VC.look, VC.junk, VC.put, VC.eff, VC.callee, VC.pureB, VC.rdK, VC.rdKs, VC.okKs, VC.eqKs, VC.fillL, VC.putL, VC.stW, VC.stOK, VC.mixF, VC.setAll, Nat.reduceAdd, Nat.reduceSub, Nat.reduceMul, if_true, if_false, ↓reduceIte, forall_const, implies_true, reduceCtorEq, ne_eq, Nat.reduceBNe, Nat.reduceBEq, IntKind.signed, Nat.reduceEqDiff, Nat.reduceLeDiff, Nat.reduceLT, eq_self, Int.reduceEq, Int.reduceLT, Int.reduceLE, Int.reduceAdd, Int.reduceSub, VC.regC_nil, VC.regC_cons, VC.regCK_eq, VC.callQ, VC.tailQ, VC.goCall, VC.chStep]
  refine ⟨by omega, ?_⟩
  refine wp_plain fun Q hQ => ?_
  refine WP_tail 13 Fa.mix (by kernel_rfl) (by kernel_rfl) (by kernel_rfl) rfl ?_
  simp -dsimp (maxSteps := 2000000) only [Fa.F95, rdSA_of m1, rdSN_of m1, rdSC_of m1, m1, rdSA_of m2, rdSN_of m2, rdSC_of m2, m2, rdI_of c0, c0, hol, hml, hgl, Int.toNat_natCast, Nat.zero_add, VC.Now, VC.vc_skip, VC.vc_ret, VC.vc_exit, VC.vc_block, VC.vc_cond, VC.vc_region, VC.lib, VC.mapN_drewN, VC.mapB_drewN, VC.regQ, VC.loopK, VC.reg, VC.opP, VC.opS, VC.opZ, VC.nomulB, VC.pv, VC.thenF, VC.blkF, VC.retF, VC.resV, VC.oneV, VC.evo, VC.bin, VC.binI, VC.cmpI, VC.arithI, VC.ldv, VC.slv, VC.pickP, VC.holds, VC.chainOf, VC.look, VC.junk, VC.put, VC.eff, VC.callee, VC.pureB, VC.rdK, VC.rdKs, VC.okKs, VC.eqKs, VC.fillL, VC.putL, VC.stW, VC.stOK, VC.mixF, VC.setAll, Nat.reduceAdd, Nat.reduceSub, Nat.reduceMul, if_true, if_false, ↓reduceIte, forall_const, implies_true, reduceCtorEq, ne_eq, Nat.reduceBNe, Nat.reduceBEq, IntKind.signed, Nat.reduceEqDiff, Nat.reduceLeDiff, Nat.reduceLT, eq_self, Int.reduceEq, Int.reduceLT, Int.reduceLE, Int.reduceAdd, Int.reduceSub, VC.regC_nil, VC.regC_cons, VC.regCK_eq, VC.callQ, VC.tailQ, VC.goCall, VC.chStep]
  refine ⟨⟨by omega, by omega⟩, ⟨by omega, by omega⟩, fun w3 hB3 => ?_⟩
  have h3 := h.below hB3
  have bg3 : Box w3 a.go ((List.range n).map fun i => iV (p.own i)) := h3.get 2 rfl
  have c3 : w3.cell? ⟨a.go, i, none⟩ = some (iV (p.own i)) := bg3.at (i := i) (by simp [hi])
  refine ⟨⟨by rw [c3]; rfl, bg3.soft (i := i) (by simpa using hi)⟩, ?_⟩
  have st4 := (h.below_st hB3).trans (DObs.mine h3 hi (p.money i))
  generalize w3.setCell ⟨a.go, i, none⟩ (.int .i64 (p.money i)) = w4 at st4 ⊢
  clear bo m1 m2 hol bm bg c0 c1 hml hgl h3 bg3 c3 hB3
  subst hQ
  simp -dsimp (maxSteps := 2000000) only [Fa.F95, VC.Now, VC.vc, VC.lib, VC.mapN_drewN, VC.mapB_drewN, VC.regQ, VC.loopK, VC.reg, VC.opP, VC.opS, VC.opZ, VC.nomulB, VC.pv, VC.thenF, VC.blkF, VC.retF, VC.resV, VC.oneV, VC.evo, VC.bin, VC.binI, VC.cmpI, VC.arithI, VC.ldv, VC.slv, VC.pickP, VC.holds, VC.chainOf, VC.look, VC.junk, VC.put, VC.eff, VC.callee, VC.pureB, VC.rdK, VC.rdKs, VC.okKs, VC.eqKs, VC.fillL, VC.putL, VC.stW, VC.stOK, VC.mixF, VC.setAll, Nat.reduceAdd, Nat.reduceSub, Nat.reduceMul, if_true, if_false, ↓reduceIte, forall_const, implies_true, reduceCtorEq, ne_eq, Nat.reduceBNe, Nat.reduceBEq, IntKind.signed, Nat.reduceEqDiff, Nat.reduceLeDiff, Nat.reduceLT, eq_self, Int.reduceEq, Int.reduceLT, Int.reduceLE, Int.reduceAdd, Int.reduceSub, VC.regC_nil, VC.regC_cons, VC.regCK_eq, VC.callQ, VC.tailQ, VC.goCall, VC.chStep]
  obtain ⟨P0, hP0⟩ : ∃ P0 : DP, P0 = { p with own := upd p.own i (p.money i) } := ⟨_, rfl⟩
  refine loop_slots Fa.mix [8] [30, 31, 32, 33, 34, 35, 36, 37, 38, 39, 40, 41, 42, 43, 44, 45, 46, 47, 48, 49, 50, 51, 52, 53, 54, 55, 56, 57, 58, 59, 60, 61, 62, 63, 64, 65, 66, 67, 68, 69, 70, 71, 72, 73] (fun m vs wx => ∃ (j : Nat) (sv' : Nat → Value), j + m = n ∧ vs = [.int .i64 j] ∧ St B (DObs n a p sv vc bv dn) w (DObs n a { P0 with lt := dnoteJ n i j p.lt } sv' vc bv dn) wx) n (by kernel_rfl) rfl
    ⟨0, sv, by omega, rfl, by rw [dnoteJ_zero, hP0]; exact st4⟩ ?_
  clear st4
  rintro m vs u2 wx ⟨j, sv', hjm, rfl, st⟩
  have hH := st.hp
  by_cases hj : j < n
  · have e7 : ((j : Int) < n) = True := eq_true (by omega)
    have ht1 := idx_lt hj hi
    have hRc : Recs wx a.gl (n * n) 3 (linL (dnoteJ n i j p.lt) sv') := hH.get 3 rfl
    have hlt1 : dnoteJ n i j p.lt (j * n + i) = p.lt (j * n + i) := by unfold dnoteJ; rw [(idx_div hi).1, (idx_div hi).2, if_pos rfl, if_neg (Nat.lt_irrefl j)]
    have d1 := hRc.at ht1 (j := 1) (by omega) rfl
    have d2 := hRc.at ht1 (j := 2) (by omega) rfl
    have f2 := hRc.soft ht1 (j := 2) (by omega)
    rw [hlt1] at d1 d2
    have k2 : (wx.cell? ⟨a.gl, (j * n + i) * 3 + 2, none⟩).isSome = true := by rw [d2]; rfl
    have hll := hRc.1
    have ej1 : (j : Int) * n = ((j * n : Nat) : Int) := by simp
    have ej2 : ((j * n : Nat) : Int) + (i : Int) = ((j * n + i : Nat) : Int) := by simp
    have hjn : j * n ≤ n * n := Nat.mul_le_mul_right n (Nat.le_of_lt hj)
    have w1 : IntKind.i64.wrap ((j * n : Nat) : Int) = ((j * n : Nat) : Int) := fits_wrap (fits_i64 (by omega) (by omega))
    have w2 : IntKind.i64.wrap ((j * n + i : Nat) : Int) = ((j * n + i : Nat) : Int) := fits_wrap (fits_i64 (by omega) (by omega))
    have st2 := st.trans (DObs.line hH ht1 (j := 2) (by omega) (u := iV ((p.lt (j * n + i)).come : Nat)) (l' := stopS (p.lt (j * n + i))) (by rw [show ({ P0 with lt := dnoteJ n i j p.lt } : DP).lt = dnoteJ n i j p.lt from rfl]; unfold linL; rw [hlt1]; rfl) (by show (p.lt (j * n + i)).sent = (dnoteJ n i j p.lt (j * n + i)).sent; rw [hlt1]))
    by_cases hij : j = i
    · have e8 : ((j : Int) = i) = True := eq_true (by omega)
      simp -dsimp (maxSteps := 2000000) only [Fa.F95, e7, e8, ej1, ej2, w1, w2, rdI_of d1, d1, f2, k2, hll, Int.toNat_natCast, Nat.zero_add, VC.Now, VC.vc, VC.lib, VC.mapN_drewN, VC.mapB_drewN, VC.regQ, VC.loopK, VC.reg, VC.opP, VC.opS, VC.opZ, VC.nomulB, VC.pv, VC.thenF, VC.blkF, VC.retF, VC.resV, VC.oneV, VC.evo, VC.bin, VC.binI, VC.cmpI, VC.arithI, VC.ldv, VC.slv, VC.pickP, VC.holds, VC.chainOf, VC.look, VC.junk, VC.put, VC.eff, VC.callee, VC.pureB, VC.rdK, VC.rdKs, VC.okKs, VC.eqKs, VC.fillL, VC.putL, VC.stW, VC.stOK, VC.mixF, VC.setAll, Nat.reduceAdd, Nat.reduceSub, Nat.reduceMul, if_true, if_false, ↓reduceIte, forall_const, implies_true, reduceCtorEq, ne_eq, Nat.reduceBNe, Nat.reduceBEq, IntKind.signed, Nat.reduceEqDiff, Nat.reduceLeDiff, Nat.reduceLT, eq_self, Int.reduceEq, Int.reduceLT, Int.reduceLE, Int.reduceAdd, Int.reduceSub, VC.regC_nil, VC.regC_cons, VC.regCK_eq, VC.callQ, VC.tailQ, VC.goCall, VC.chStep]
      rw [dnoteJ_stop hi hj] at st2
      subst hij
      rw [dnoteJ_self] at st2
      exact ⟨fits_i64 (by omega) (by omega), fits_i64 (by omega) (by omega), fits_i64 (by omega) (by omega), fits_i64 (by omega) (by omega), ⟨by omega, by omega⟩, ⟨by omega, by omega⟩, fits_i64_nat (by omega), SAME.intro (by kernel_rfl), m - 1, by omega, j + 1, sv', by omega, rfl, st2⟩
    have e8 : ((j : Int) = i) = False := eq_false (by omega)
    rw [dnoteJ_stop hi hj] at st2
    obtain ⟨L2, hL2⟩ : ∃ L2 : Nat → Lin, L2 = fun t => if t % n = i then (if t / n < j + 1 then stopS (p.lt t) else p.lt t) else if t / n = i ∧ t % n < j then markS (p.lt t) else p.lt t := ⟨_, rfl⟩
    rw [← hL2] at st2
    have hH2 := st2.hp
    have ht2 := idx_lt hi hj
    have hlt2 : L2 (i * n + j) = p.lt (i * n + j) := by rw [hL2]; show (if (i * n + j) % n = i then _ else _) = _; rw [(idx_div hj).1, (idx_div hj).2, if_neg hij, if_neg (fun h => Nat.lt_irrefl _ h.2)]
    have hO := DObs.get hH2 ht2
    have hO : OwnK _ 0 3 1 (L2 (i * n + j)).sent.length (sv' (i * n + j)) ((L2 (i * n + j)).sent.map iV) := hO
    rw [hlt2] at hO
    obtain ⟨As, cs, es, _⟩ := id hO
    have hRc2 : Recs _ a.gl (n * n) 3 (linL L2 sv') := hH2.get 3 rfl
    have r0 := hRc2.at ht2 (j := 0) (by omega) rfl
    rw [es] at r0
    simp only [Nat.add_zero] at r0
    have hll2 := hRc2.1
    have ej3 : (i : Int) * n = ((i * n : Nat) : Int) := by simp
    have ej4 : ((i * n : Nat) : Int) + (j : Int) = ((i * n + j : Nat) : Int) := by simp
    have hin : i * n ≤ n * n := Nat.mul_le_mul_right n (Nat.le_of_lt hi)
    have w3' : IntKind.i64.wrap ((i * n : Nat) : Int) = ((i * n : Nat) : Int) := fits_wrap (fits_i64 (by omega) (by omega))
    have w4' : IntKind.i64.wrap ((i * n + j : Nat) : Int) = ((i * n + j : Nat) : Int) := fits_wrap (fits_i64 (by omega) (by omega))
    simp -dsimp (maxSteps := 2000000) only [Fa.F95, e7, e8, ej1, ej2, w1, w2, rdI_of d1, d1, f2, k2, hll, ej3, ej4, w3', w4', rdSA_of r0, rdSN_of r0, rdSC_of r0, r0, hll2, Int.toNat_natCast, Nat.zero_add, VC.Now, VC.vc, VC.lib, VC.mapN_drewN, VC.mapB_drewN, VC.regQ, VC.loopK, VC.reg, VC.opP, VC.opS, VC.opZ, VC.nomulB, VC.pv, VC.thenF, VC.blkF, VC.retF, VC.resV, VC.oneV, VC.evo, VC.bin, VC.binI, VC.cmpI, VC.arithI, VC.ldv, VC.slv, VC.pickP, VC.holds, VC.chainOf, VC.look, VC.junk, VC.put, VC.eff, VC.callee, VC.pureB, VC.rdK, VC.rdKs, VC.okKs, VC.eqKs, VC.fillL, VC.putL, VC.stW, VC.stOK, VC.mixF, VC.setAll, Nat.reduceAdd, Nat.reduceSub, Nat.reduceMul, if_true, if_false, ↓reduceIte, forall_const, implies_true, reduceCtorEq, ne_eq, Nat.reduceBNe, Nat.reduceBEq, IntKind.signed, Nat.reduceEqDiff, Nat.reduceLeDiff, Nat.reduceLT, eq_self, Int.reduceEq, Int.reduceLT, Int.reduceLE, Int.reduceAdd, Int.reduceSub, VC.regC_nil, VC.regC_cons, VC.regCK_eq, VC.callQ, VC.tailQ, VC.goCall, VC.chStep]
    refine ⟨fits_i64 (by omega) (by omega), fits_i64 (by omega) (by omega), fits_i64 (by omega) (by omega), fits_i64 (by omega) (by omega), ⟨by omega, by omega⟩, ⟨by omega, by omega⟩, fits_i64 (by omega) (by omega), fits_i64 (by omega) (by omega), fits_i64 (by omega) (by omega), fits_i64 (by omega) (by omega), ⟨by omega, by omega⟩, ?_⟩
    have hsz : (wx.setCell ⟨a.gl, (j * n + i) * 3 + 2, none⟩ (.int .i64 ((p.lt (j * n + i)).come : Nat))).heap.size = wx.heap.size := by simp
    generalize wx.setCell ⟨a.gl, (j * n + i) * 3 + 2, none⟩ (.int .i64 ((p.lt (j * n + i)).come : Nat)) = w5 at *
    have hls := hl (i * n + j)
    have hOe := hO
    rw [es] at hOe
    refine OPW_appK (v := .slice As (p.lt (i * n + j)).sent.length cs) (us := [iV (-1)]) rfl Fa.apI23 rfl rfl rfl (by simp [Value.oneCell']) hOe (Nat.zero_le _) (by omega) (by decide) fun v8 w8 ho8 hg8 hst8 => ?_
    have ho8' : OwnK w8 0 3 1 ((L2 (i * n + j)).sent ++ [-1]).length v8 (((L2 (i * n + j)).sent ++ [-1]).map iV) := by rw [hlt2, List.length_append, List.map_append]; exact ho8
    obtain ⟨A8, c8, e8v, _⟩ := id ho8
    rw [← es] at hg8 hst8
    obtain ⟨⟨g1, g2⟩, st8⟩ := DObs.sent hH2 ht2 (x := -1) ho8' hg8 hst8
    have hll8 : a.gl < w8.heap.size := by have := hg8.size; omega
    subst e8v
    rw [VC.Now, VC.seqK_eq]
    simp -dsimp (maxSteps := 2000000) only [Fa.F95, g1, g2, hll8, ej3, ej4, w3', w4', Int.toNat_natCast, Nat.zero_add, VC.Now, VC.vc, VC.lib, VC.mapN_drewN, VC.mapB_drewN, VC.regQ, VC.loopK, VC.reg, VC.opP, VC.opS, VC.opZ, VC.nomulB, VC.pv, VC.thenF, VC.blkF, VC.retF, VC.resV, VC.oneV, VC.evo, VC.bin, VC.binI, VC.cmpI, VC.arithI, VC.ldv, VC.slv, VC.pickP, VC.holds, VC.chainOf, VC.look, VC.junk, VC.put, VC.eff, VC.callee, VC.pureB, VC.rdK, VC.rdKs, VC.okKs, VC.eqKs, VC.fillL, VC.putL, VC.stW, VC.stOK, VC.mixF, VC.setAll, Nat.reduceAdd, Nat.reduceSub, Nat.reduceMul, if_true, if_false, ↓reduceIte, forall_const, implies_true, reduceCtorEq, ne_eq, Nat.reduceBNe, Nat.reduceBEq, IntKind.signed, Nat.reduceEqDiff, Nat.reduceLeDiff, Nat.reduceLT, eq_self, Int.reduceEq, Int.reduceLT, Int.reduceLE, Int.reduceAdd, Int.reduceSub, VC.regC_nil, VC.regC_cons, VC.regCK_eq, VC.callQ, VC.tailQ, VC.goCall, VC.chStep]
    have e9 : upd L2 (i * n + j) { L2 (i * n + j) with sent := (L2 (i * n + j)).sent ++ [-1] } = dnoteJ n i (j + 1) p.lt := by
      show upd L2 (i * n + j) (markS (L2 (i * n + j))) = _
      rw [hlt2, hL2]
      exact dnoteJ_mark hi hj hij
    have st9 := st2.trans st8
    rw [e9] at st9
    exact ⟨⟨by omega, by omega⟩, fits_i64_nat (by omega), SAME.intro (by kernel_rfl), m - 1, by omega, j + 1, _, by omega, rfl, st9⟩
  · obtain rfl : j = n := by omega
    have e7 : ((j : Int) < j) = False := eq_false (by omega)
    simp -dsimp (maxSteps := 2000000) only [Fa.F95, e7, VC.Now, VC.vc, VC.lib, VC.mapN_drewN, VC.mapB_drewN, VC.regQ, VC.loopK, VC.reg, VC.opP, VC.opS, VC.opZ, VC.nomulB, VC.pv, VC.thenF, VC.blkF, VC.retF, VC.resV, VC.oneV, VC.evo, VC.bin, VC.binI, VC.cmpI, VC.arithI, VC.ldv, VC.slv, VC.pickP, VC.holds, VC.chainOf, VC.look, VC.junk, VC.put, VC.eff, VC.callee, VC.pureB, VC.rdK, VC.rdKs, VC.okKs, VC.eqKs, VC.fillL, VC.putL, VC.stW, VC.stOK, VC.mixF, VC.setAll, Nat.reduceAdd, Nat.reduceSub, Nat.reduceMul, if_true, if_false, ↓reduceIte, forall_const, implies_true, reduceCtorEq, ne_eq, Nat.reduceBNe, Nat.reduceBEq, IntKind.signed, Nat.reduceEqDiff, Nat.reduceLeDiff, Nat.reduceLT, eq_self, Int.reduceEq, Int.reduceLT, Int.reduceLE, Int.reduceAdd, Int.reduceSub, VC.regC_nil, VC.regC_cons, VC.regCK_eq, VC.callQ, VC.tailQ, VC.goCall, VC.chStep]
    have hd : DEq j { P0 with lt := dnoteJ j i j p.lt } (dnote j i p) := by
      unfold dnote
      rw [if_neg ho, hP0]
      exact ⟨rfl, rfl, fun t ht => dnoteJ_all ht⟩
    exact ⟨sv', hd.st st⟩
end
end Go.Proofs.Ytelfmhiaafkimaa
