/- Many copies as one, the document's: one copy more is reached. -/
import Derived.Test.YtnggjekppdlaoaaRegD5
import Derived.Test.YtnggjekppdlaoaaRefHas
namespace Go.Proofs.Ytnggjekppdlaoaa
open Go Go.RowKit Go.VC
set_option linter.unusedSimpArgs false
set_option linter.unusedVariables false
section
variable {B n t : Nat} {a : DA} {s : RS} {st : Nat → List Sto} {sn : Nat → List Nat} {w : World}
theorem DPost.reach {x i : Nat} (hx : x < n) (hi : i < s.k) (hs : ¬ (s.op i).seen.testBit x = true) (hd : DRel t s st sn) {v1 v2 : Value} {l1 : List Sto} {l2 : List Nat} {o' : OpS} {w' : World} {r : Int × RS}
    (h : St B (DMid n a s st sn x i (a.sv x) (st x) (opsP s i) (unsP a s i) (a.uv i) (sn i)) w (DMid n a s st sn x i v1 l1 (apC o') (unC v2 o') v2 l2) w')
    (ho : reach2 n t (reach1 x s.cp (s.op i)) = o') (h1 : l1 = if (s.op i).second = true then st x ++ [(s.op i).b] else st x) (h2 : l2 = snR n (s.op i) (sn i) x) (hr : r = rreach n i x t s) : DPost B n t a s st sn w r (.returned (.int .i64 0)) w' := by
  subst ho
  have hd2 := drel_reach (n := n) hd hi hs
  have hr2 : r = (0, { s with cp := (if (s.op i).second = true then rstore s.cp x (s.op i).b else s.cp), op := upd s.op i (reach2 n t (reach1 x s.cp (s.op i))), now := (if n < 2 * ((s.op i).many + 1) ∧ (s.op i).second = true then upd s.now (s.op i).who.toNat none else s.now) }) := by
    rw [hr]; unfold rreach; rw [if_neg hs]
  refine DPost.mid hx hi h hr2 ?_
  rw [hr, h1, h2]
  have e : upd st x (if (s.op i).second = true then st x ++ [(s.op i).b] else st x) = if (s.op i).second = true then addL st x (s.op i).b else st := by
    split
    · rfl
    · exact upd_self st x
  rw [e]
  exact hd2
theorem sn_has {l : List Nat} {x : Nat} : decide ((x : Int) ∈ l.map fun y : Nat => (y : Int)) = decide (x ∈ l) := by
  congr 1
  simp only [List.mem_map, eq_iff_iff]
  exact ⟨fun ⟨y, h1, h2⟩ => by have : y = x := by omega
                               exact this ▸ h1, fun h => ⟨x, h, rfl⟩⟩
theorem sn_rd {w : World} {v : Value} {l : List Nat} {A : Option Addr} {c : Nat} (h : OwnK w 0 3 1 l.length (.slice A l.length c) (snL l)) : Rd w A ((l.map fun y : Nat => (y : Int)).map (Value.int .i64)) := by
  have := h.rd.2
  rw [List.map_map]
  exact this

end
set_option maxRecDepth 8000 in
set_option maxHeartbeats 8000000 in
noncomputable def dreachBut : { P : Prop // P → ∀ (B n t : Nat) (a : DA) (s : RS) (st : Nat → List Sto) (sn : Nat → List Nat) (w : World), Hp B (DObs n a s st sn) w → DRel t s st sn → ROK n t s → n ≤ 5 → t ≤ 120 → ∀ c : Call, c.kind = 2 → 0 ≤ c.who ∧ c.who < 4 → 0 ≤ c.at_ ∧ c.at_ < n →
    Calls Try.prog 54 #[.pointer (some ⟨a.mb, 0, none⟩), callV c, .int .i64 t] w (DPost B n t a s st sn w (rstep n c t s)) } := by
  refine ⟨?P3 ∧ ?P4, fun HH B n t a s st sn w h hd hok hn ht c hk hw ha => ?body⟩
  case body =>
    have x0 := Box.new w (callL c) 142
    have hB0 : Below w.heap.size w (w.alloc (.cells (callL c).toArray 142)) := (Below.refl _ _).alloc (Nat.le_refl _) _
    refine calls_vc (rs := [.tmp 6]) Fa.mix Try.func54 rfl Try.ntmps54 rfl (by kernel_rfl) (Nat.le_of_ble_eq_true rfl) ?_
    (repeat rw [vc_seq]); refine vc_plain _ fun Q hQ => ?_; simp -dsimp only [Fa.F54, VC.Now, VC.vc_skip, VC.vc_ret, VC.vc_exit, VC.vc_block, VC.vc_cond, VC.vc_region, VC.lib, VC.regQ, VC.loopK, VC.reg, VC.opP, VC.pv, VC.thenF, VC.blkF, VC.retF, VC.resV, VC.oneV, VC.evo, VC.bin, VC.binI, VC.cmpI, VC.arithI, VC.ldv, VC.slv, VC.pickP, VC.holds, VC.chainOf, VC.look, VC.junk, VC.put, VC.eff, VC.callee, VC.pureB, VC.rdK, VC.rdKs, VC.okKs, VC.eqKs, VC.fillL, VC.putL, VC.stW, VC.stOK, VC.mixF, VC.setAll, Nat.reduceAdd, Nat.reduceSub, Nat.reduceMul, if_true, if_false, ↓reduceIte, forall_const, implies_true, reduceCtorEq, ne_eq, Nat.reduceBNe, Nat.reduceBEq, IntKind.signed, Nat.reduceEqDiff, Nat.reduceLeDiff, Nat.reduceLT, eq_self, Int.reduceEq, Int.reduceLT, Int.reduceLE, Int.reduceAdd, Int.reduceSub, VC.regC_nil, VC.regC_cons, VC.regCK_eq, VC.callQ, VC.tailQ, VC.goCall, VC.chStep]
    change Q _ _ (w.alloc (.cells (callL c).toArray 142))
    generalize w.alloc (.cells (callL c).toArray 142) = w1 at x0 hB0 ⊢
    have hsz : ∀ L : List Ob, Hp B L w → ¬ foot L w.heap.size := fun L hL hf => by have := (hL.foot_lt hf).2; omega
    have hwb := h.base
    generalize hsb : w.heap.size = sb at x0 hsz hB0 hwb ⊢
    have h1 := h.below (hsb ▸ hB0)
    have z0 := x0.at (i := 0) rfl
    have z1 := x0.at (i := 1) rfl
    have z2 := x0.at (i := 2) rfl
    have e1 : (c.kind = 1) = False := eq_false (by omega)
    have e2 : (c.kind = 2) = True := eq_true (by omega)
    have e3 : (c.kind = 3) = False := eq_false (by omega)
    have e4 : (c.who < 0) = False := eq_false (by omega)
    have e5 : (4 ≤ c.who) = False := eq_false (by omega)
    have e6 : (c.at_ < 0) = False := eq_false (by omega)
    have e7 : ((n : Int) ≤ c.at_) = False := eq_false (by omega)
    have hbm := (h1.get 0 rfl : Box w1 a.mb (shelfC n a))
    have hml := hbm.1
    have m0 := hbm.at (i := 0) rfl
    have m1 := hbm.at (i := 1) rfl
    obtain ⟨Ao, co, eo, -⟩ := id (h1.get 2 rfl : OwnK w1 0 145 6 s.k a.vo _)
    rw [eo] at m1
    obtain ⟨j, hj⟩ : ∃ j : Nat, c.who = j := ⟨c.who.toNat, by omega⟩
    have hj4 : j < 4 := by omega
    have hjN : c.who.toNat = j := by omega
    rw [hj] at z1 e4 e5
    have hkb := hok.k
    subst hQ
    simp -dsimp only [Fa.F54, rdI_of z0, z0, rdI_of z1, z1, rdI_of z2, z2, rdSA_of m0, rdSN_of m0, rdSC_of m0, m0, rdSA_of m1, rdSN_of m1, rdSC_of m1, m1, hml, e1, e2, e3, e4, e5, e6, e7, undef, tu, uf, ul, ur, VC.Now, VC.vc, VC.lib, VC.regQ, VC.loopK, VC.reg, VC.opP, VC.pv, VC.thenF, VC.blkF, VC.retF, VC.resV, VC.oneV, VC.evo, VC.bin, VC.binI, VC.cmpI, VC.arithI, VC.ldv, VC.slv, VC.pickP, VC.holds, VC.chainOf, VC.look, VC.junk, VC.put, VC.eff, VC.callee, VC.pureB, VC.rdK, VC.rdKs, VC.okKs, VC.eqKs, VC.fillL, VC.putL, VC.stW, VC.stOK, VC.mixF, VC.setAll, Nat.reduceAdd, Nat.reduceSub, Nat.reduceMul, if_true, if_false, ↓reduceIte, forall_const, implies_true, reduceCtorEq, ne_eq, Nat.reduceBNe, Nat.reduceBEq, IntKind.signed, Nat.reduceEqDiff, Nat.reduceLeDiff, Nat.reduceLT, eq_self, Int.reduceEq, Int.reduceLT, Int.reduceLE, Int.reduceAdd, Int.reduceSub, VC.regC_nil, VC.regC_cons, VC.regCK_eq, VC.callQ, VC.tailQ, VC.goCall, VC.chStep]
    intro u u1 m
    have hB1 : Below w1.heap.size w1 (w1.drewN m) := below_drewN (Below.refl _ w1) m
    refine loop_slots Fa.mix [7, 8] [111, 112, 113, 114, 115, 116, 117, 118, 119, 120, 121, 122, 123, 124, 125, 126, 127, 128, 129, 130, 131, 132, 133, 134, 135, 136, 137, 138, 139, 140, 141, 142] (fun m vs wx => ∃ k : Nat, k + m = s.k ∧ vs = [.int .i64 (atI (findO s j k)), .int .i64 k] ∧ Below w1.heap.size w1 wx) s.k (by kernel_rfl) rfl
      ⟨0, by omega, rfl, hB1⟩ ?_
    clear hB1 m
    rintro m vs uu wx ⟨k, hkm, rfl, hBx⟩
    have hx1 := h1.below hBx
    have bx := x0.below hBx
    have hsl := bx.1
    have bmx := (hx1.get 0 rfl : Box wx a.mb (shelfC n a))
    have hmx := bmx.1
    have k1 := bmx.at (i := 1) rfl
    rw [eo] at k1
    have w1x := bx.at (i := 1) rfl
    rw [hj] at w1x
    have hf : findO s j (k + 1) = if (s.op k).who = j ∧ (s.op k).to < 0 then some k else findO s j k := rfl
    by_cases hk2 : k < s.k
    · have e8 : ((k : Int) < s.k) = True := eq_true (by omega)
      obtain ⟨go, cg, eg, -, hgo⟩ := (hx1.get 2 rfl : OwnK wx 0 145 6 s.k a.vo _).form (by omega)
      rw [eg] at eo
      cases eo
      have hoo : OwnK wx 0 145 6 s.k a.vo (seqC (opsP s) s.k) := hx1.get 2 rfl
      rw [eg] at hoo
      have y0 := (OwnK.cellS hoo (fun _ _ => rfl) hk2 (show 0 < 6 by omega) rfl).1
      have y5 := (OwnK.cellS hoo (fun _ _ => rfl) hk2 (show 5 < 6 by omega) rfl).1
      simp only [Nat.add_zero] at y0
      by_cases q1 : (s.op k).who = j
      · have f1 := eq_true q1
        by_cases q2 : (s.op k).to < 0
        · have f2 := eq_true q2
          rw [if_pos ⟨q1, q2⟩] at hf
          simp -dsimp only [Fa.F54, e8, rdSA_of k1, rdSN_of k1, rdSC_of k1, k1, rdI_of y0, y0, rdI_of y5, y5, rdI_of w1x, w1x, hmx, hgo, hsl, f1, f2, Int.toNat_natCast, Nat.zero_add, undef, tu, uf, ul, ur, VC.Now, VC.vc, VC.lib, VC.regQ, VC.loopK, VC.reg, VC.opP, VC.pv, VC.thenF, VC.blkF, VC.retF, VC.resV, VC.oneV, VC.evo, VC.bin, VC.binI, VC.cmpI, VC.arithI, VC.ldv, VC.slv, VC.pickP, VC.holds, VC.chainOf, VC.look, VC.junk, VC.put, VC.eff, VC.callee, VC.pureB, VC.rdK, VC.rdKs, VC.okKs, VC.eqKs, VC.fillL, VC.putL, VC.stW, VC.stOK, VC.mixF, VC.setAll, Nat.reduceAdd, Nat.reduceSub, Nat.reduceMul, if_true, if_false, ↓reduceIte, forall_const, implies_true, reduceCtorEq, ne_eq, Nat.reduceBNe, Nat.reduceBEq, IntKind.signed, Nat.reduceEqDiff, Nat.reduceLeDiff, Nat.reduceLT, eq_self, Int.reduceEq, Int.reduceLT, Int.reduceLE, Int.reduceAdd, Int.reduceSub, VC.regC_nil, VC.regC_cons, VC.regCK_eq, VC.callQ, VC.tailQ, VC.goCall, VC.chStep]
          exact ⟨by omega, by omega, fun _ m1 => ⟨fits_i64 (by omega) (by omega), SAME.intro (by kernel_rfl), m - 1, by omega, k + 1, by omega, by rw [hf]; rfl, hBx.trans ((below_drewN (Below.refl _ wx) m1).mono hBx.size)⟩⟩
        · have f2 := eq_false q2
          rw [if_neg fun hh => q2 hh.2] at hf
          simp -dsimp only [Fa.F54, e8, rdSA_of k1, rdSN_of k1, rdSC_of k1, k1, rdI_of y0, y0, rdI_of y5, y5, rdI_of w1x, w1x, hmx, hgo, hsl, f1, f2, Int.toNat_natCast, Nat.zero_add, undef, tu, uf, ul, ur, VC.Now, VC.vc, VC.lib, VC.regQ, VC.loopK, VC.reg, VC.opP, VC.pv, VC.thenF, VC.blkF, VC.retF, VC.resV, VC.oneV, VC.evo, VC.bin, VC.binI, VC.cmpI, VC.arithI, VC.ldv, VC.slv, VC.pickP, VC.holds, VC.chainOf, VC.look, VC.junk, VC.put, VC.eff, VC.callee, VC.pureB, VC.rdK, VC.rdKs, VC.okKs, VC.eqKs, VC.fillL, VC.putL, VC.stW, VC.stOK, VC.mixF, VC.setAll, Nat.reduceAdd, Nat.reduceSub, Nat.reduceMul, if_true, if_false, ↓reduceIte, forall_const, implies_true, reduceCtorEq, ne_eq, Nat.reduceBNe, Nat.reduceBEq, IntKind.signed, Nat.reduceEqDiff, Nat.reduceLeDiff, Nat.reduceLT, eq_self, Int.reduceEq, Int.reduceLT, Int.reduceLE, Int.reduceAdd, Int.reduceSub, VC.regC_nil, VC.regC_cons, VC.regCK_eq, VC.callQ, VC.tailQ, VC.goCall, VC.chStep]
          exact ⟨by omega, by omega, fun _ m1 => ⟨fits_i64 (by omega) (by omega), SAME.intro (by kernel_rfl), m - 1, by omega, k + 1, by omega, by rw [hf]; rfl, hBx.trans ((below_drewN (Below.refl _ wx) m1).mono hBx.size)⟩⟩
      · have f1 := eq_false q1
        rw [if_neg fun hh => q1 hh.1] at hf
        simp -dsimp only [Fa.F54, e8, rdSA_of k1, rdSN_of k1, rdSC_of k1, k1, rdI_of y0, y0, rdI_of y5, y5, rdI_of w1x, w1x, hmx, hgo, hsl, f1, Int.toNat_natCast, Nat.zero_add, undef, tu, uf, ul, ur, VC.Now, VC.vc, VC.lib, VC.regQ, VC.loopK, VC.reg, VC.opP, VC.pv, VC.thenF, VC.blkF, VC.retF, VC.resV, VC.oneV, VC.evo, VC.bin, VC.binI, VC.cmpI, VC.arithI, VC.ldv, VC.slv, VC.pickP, VC.holds, VC.chainOf, VC.look, VC.junk, VC.put, VC.eff, VC.callee, VC.pureB, VC.rdK, VC.rdKs, VC.okKs, VC.eqKs, VC.fillL, VC.putL, VC.stW, VC.stOK, VC.mixF, VC.setAll, Nat.reduceAdd, Nat.reduceSub, Nat.reduceMul, if_true, if_false, ↓reduceIte, forall_const, implies_true, reduceCtorEq, ne_eq, Nat.reduceBNe, Nat.reduceBEq, IntKind.signed, Nat.reduceEqDiff, Nat.reduceLeDiff, Nat.reduceLT, eq_self, Int.reduceEq, Int.reduceLT, Int.reduceLE, Int.reduceAdd, Int.reduceSub, VC.regC_nil, VC.regC_cons, VC.regCK_eq, VC.callQ, VC.tailQ, VC.goCall, VC.chStep]
        exact ⟨by omega, fun _ m1 => ⟨fits_i64 (by omega) (by omega), SAME.intro (by kernel_rfl), m - 1, by omega, k + 1, by omega, by rw [hf]; rfl, hBx.trans ((below_drewN (Below.refl _ wx) m1).mono hBx.size)⟩⟩
    obtain rfl : k = s.k := by omega
    have e8 : ((s.k : Int) < s.k) = False := eq_false (by omega)
    rw [findO_now hok]
    have zx0 := bx.at (i := 0) rfl
    have zx2 := bx.at (i := 2) rfl
    obtain ⟨x, hx0⟩ : ∃ x : Nat, c.at_ = x := ⟨c.at_.toNat, by omega⟩
    have hxN : c.at_.toNat = x := by omega
    have hx : x < n := by omega
    rw [hx0] at zx2
    have hBw : Below sb w wx := hB0.trans (hBx.mono (hsb ▸ hB0.size))
    have k2 := bmx.at (i := 2) rfl
    cases hnow : s.now j with
    | none =>
      have hr : rstep n c t s = (6, s) := by unfold rstep; rw [if_neg (by omega), if_neg (by omega), if_neg (by omega), if_pos hk, hjN, hnow]
      have e9 : ((-1 : Int) < 0) = True := eq_true (by decide)
      obtain ⟨Au, cu, eu, _⟩ := id (hx1.get 3 rfl : OwnK wx 0 189 6 s.k a.vu _)
      rw [eu] at k2
      simp -dsimp only [Fa.F54, e8, e1, rdSA_of k1, rdSN_of k1, rdSC_of k1, k1, rdI_of zx0, zx0, hmx, hsl, atI, undef, tu, uf, ul, ur, VC.Now, VC.vc, VC.lib, VC.regQ, VC.loopK, VC.reg, VC.opP, VC.pv, VC.thenF, VC.blkF, VC.retF, VC.resV, VC.oneV, VC.evo, VC.bin, VC.binI, VC.cmpI, VC.arithI, VC.ldv, VC.slv, VC.pickP, VC.holds, VC.chainOf, VC.look, VC.junk, VC.put, VC.eff, VC.callee, VC.pureB, VC.rdK, VC.rdKs, VC.okKs, VC.eqKs, VC.fillL, VC.putL, VC.stW, VC.stOK, VC.mixF, VC.setAll, Nat.reduceAdd, Nat.reduceSub, Nat.reduceMul, if_true, if_false, ↓reduceIte, forall_const, implies_true, reduceCtorEq, ne_eq, Nat.reduceBNe, Nat.reduceBEq, IntKind.signed, Nat.reduceEqDiff, Nat.reduceLeDiff, Nat.reduceLT, eq_self, Int.reduceEq, Int.reduceLT, Int.reduceLE, Int.reduceAdd, Int.reduceSub, VC.regC_nil, VC.regC_cons, VC.regCK_eq, VC.callQ, VC.tailQ, VC.goCall, VC.chStep]
      refine WP_calls Fa.mix (by kernel_rfl) (by kernel_rfl) rfl ?_
      simp -dsimp only [Fa.F54, e9, rdSA_of k2, rdSN_of k2, rdSC_of k2, k2, rdI_of zx2, zx2, hmx, hsl, VC.Now, VC.vc_skip, VC.vc_ret, VC.vc_exit, VC.vc_block, VC.vc_cond, VC.vc_region, VC.lib, VC.regQ, VC.loopK, VC.reg, VC.opP, VC.pv, VC.thenF, VC.blkF, VC.retF, VC.resV, VC.oneV, VC.evo, VC.bin, VC.binI, VC.cmpI, VC.arithI, VC.ldv, VC.slv, VC.pickP, VC.holds, VC.chainOf, VC.look, VC.junk, VC.put, VC.eff, VC.callee, VC.pureB, VC.rdK, VC.rdKs, VC.okKs, VC.eqKs, VC.fillL, VC.putL, VC.stW, VC.stOK, VC.mixF, VC.setAll, Nat.reduceAdd, Nat.reduceSub, Nat.reduceMul, if_true, if_false, ↓reduceIte, forall_const, implies_true, reduceCtorEq, ne_eq, Nat.reduceBNe, Nat.reduceBEq, IntKind.signed, Nat.reduceEqDiff, Nat.reduceLeDiff, Nat.reduceLT, eq_self, Int.reduceEq, Int.reduceLT, Int.reduceLE, Int.reduceAdd, Int.reduceSub, VC.regC_nil, VC.regC_cons, VC.regCK_eq, VC.callQ, VC.tailQ, VC.goCall, VC.chStep]
      refine CALLQ_of (v := .bool true) (fun hf => hf.elim) ?_
      simp -dsimp only [Fa.F54, e9, VC.Now, VC.vc_skip, VC.vc_ret, VC.vc_exit, VC.vc_block, VC.vc_cond, VC.vc_region, VC.lib, VC.regQ, VC.loopK, VC.reg, VC.opP, VC.pv, VC.thenF, VC.blkF, VC.retF, VC.resV, VC.oneV, VC.evo, VC.bin, VC.binI, VC.cmpI, VC.arithI, VC.ldv, VC.slv, VC.pickP, VC.holds, VC.chainOf, VC.look, VC.junk, VC.put, VC.eff, VC.callee, VC.pureB, VC.rdK, VC.rdKs, VC.okKs, VC.eqKs, VC.fillL, VC.putL, VC.stW, VC.stOK, VC.mixF, VC.setAll, Nat.reduceAdd, Nat.reduceSub, Nat.reduceMul, if_true, if_false, ↓reduceIte, forall_const, implies_true, reduceCtorEq, ne_eq, Nat.reduceBNe, Nat.reduceBEq, IntKind.signed, Nat.reduceEqDiff, Nat.reduceLeDiff, Nat.reduceLT, eq_self, Int.reduceEq, Int.reduceLT, Int.reduceLE, Int.reduceAdd, Int.reduceSub, VC.regC_nil, VC.regC_cons, VC.regCK_eq, VC.callQ, VC.tailQ, VC.goCall, VC.chStep]
      intro u2 wy hwy
      simp -dsimp only [Fa.F54, e9, VC.Now, VC.vc, VC.lib, VC.regQ, VC.loopK, VC.reg, VC.opP, VC.pv, VC.thenF, VC.blkF, VC.retF, VC.resV, VC.oneV, VC.evo, VC.bin, VC.binI, VC.cmpI, VC.arithI, VC.ldv, VC.slv, VC.pickP, VC.holds, VC.chainOf, VC.look, VC.junk, VC.put, VC.eff, VC.callee, VC.pureB, VC.rdK, VC.rdKs, VC.okKs, VC.eqKs, VC.fillL, VC.putL, VC.stW, VC.stOK, VC.mixF, VC.setAll, Nat.reduceAdd, Nat.reduceSub, Nat.reduceMul, if_true, if_false, ↓reduceIte, forall_const, implies_true, reduceCtorEq, ne_eq, Nat.reduceBNe, Nat.reduceBEq, IntKind.signed, Nat.reduceEqDiff, Nat.reduceLeDiff, Nat.reduceLT, eq_self, Int.reduceEq, Int.reduceLT, Int.reduceLE, Int.reduceAdd, Int.reduceSub, VC.regC_nil, VC.regC_cons, VC.regCK_eq, VC.callQ, VC.tailQ, VC.goCall, VC.chStep]
      exact DPost.same h hd (hsb ▸ hBw.trans (hwy.mono (hsb ▸ hBw.size))) hr
    | some i =>
      obtain ⟨hi, hwho, hto⟩ := hok.now j i hnow
      have hr : rstep n c t s = rreach n i x t s := by unfold rstep; rw [if_neg (by omega), if_neg (by omega), if_neg (by omega), if_pos hk, hjN, hnow, hxN]
      have e9 : ((i : Int) < 0) = False := eq_false (by omega)
      have h2 : Hp B (DMid n a s st sn x i (a.sv x) (st x) (opsP s i) (unsP a s i) (a.uv i) (sn i)) wx := hx1.perm (dmid_start hx hi)
      obtain ⟨go, cgo, eo2, -, hgo⟩ := (h2.get 2 rfl : OwnK wx 0 145 6 s.k a.vo _).form (by omega)
      obtain ⟨gu, cgu, eu2, -, hgu⟩ := (h2.get 3 rfl : OwnK wx 0 189 6 s.k a.vu _).form (by omega)
      rw [eu2] at k2
      have hKu := len_upd (P := unsP a s) (K := 6) (i := i) (k := s.k) (c := unsP a s i) (fun _ _ => rfl) rfl
      have hou : OwnK wx 0 189 6 s.k a.vu (seqC (upd (unsP a s) i (unsP a s i)) s.k) := h2.get 3 rfl
      rw [eu2] at hou
      have y4 := (OwnK.cellS hou hKu hi (show 4 < 6 by omega) (by rw [upd_same]; rfl)).1
      have hos : OwnK wx 0 3 1 (sn i).length (a.uv i) (snL (sn i)) := h2.get 5 rfl
      obtain ⟨Av, cv, ev, -⟩ := id hos
      rw [ev] at y4 hos
      simp -dsimp only [Fa.F54, e8, e1, rdSA_of k1, rdSN_of k1, rdSC_of k1, k1, rdI_of zx0, zx0, hmx, hsl, atI, undef, tu, uf, ul, ur, VC.Now, VC.vc, VC.lib, VC.regQ, VC.loopK, VC.reg, VC.opP, VC.pv, VC.thenF, VC.blkF, VC.retF, VC.resV, VC.oneV, VC.evo, VC.bin, VC.binI, VC.cmpI, VC.arithI, VC.ldv, VC.slv, VC.pickP, VC.holds, VC.chainOf, VC.look, VC.junk, VC.put, VC.eff, VC.callee, VC.pureB, VC.rdK, VC.rdKs, VC.okKs, VC.eqKs, VC.fillL, VC.putL, VC.stW, VC.stOK, VC.mixF, VC.setAll, Nat.reduceAdd, Nat.reduceSub, Nat.reduceMul, if_true, if_false, ↓reduceIte, forall_const, implies_true, reduceCtorEq, ne_eq, Nat.reduceBNe, Nat.reduceBEq, IntKind.signed, Nat.reduceEqDiff, Nat.reduceLeDiff, Nat.reduceLT, eq_self, Int.reduceEq, Int.reduceLT, Int.reduceLE, Int.reduceAdd, Int.reduceSub, VC.regC_nil, VC.regC_cons, VC.regCK_eq, VC.callQ, VC.tailQ, VC.goCall, VC.chStep]
      refine WP_calls Fa.mix (by kernel_rfl) (by kernel_rfl) rfl ?_
      simp -dsimp only [Fa.F54, e9, rdSA_of k2, rdSN_of k2, rdSC_of k2, k2, rdI_of zx2, zx2, rdSA_of y4, rdSN_of y4, rdSC_of y4, y4, hmx, hsl, hgu, Int.toNat_natCast, Nat.zero_add, VC.Now, VC.vc_skip, VC.vc_ret, VC.vc_exit, VC.vc_block, VC.vc_cond, VC.vc_region, VC.lib, VC.regQ, VC.loopK, VC.reg, VC.opP, VC.pv, VC.thenF, VC.blkF, VC.retF, VC.resV, VC.oneV, VC.evo, VC.bin, VC.binI, VC.cmpI, VC.arithI, VC.ldv, VC.slv, VC.pickP, VC.holds, VC.chainOf, VC.look, VC.junk, VC.put, VC.eff, VC.callee, VC.pureB, VC.rdK, VC.rdKs, VC.okKs, VC.eqKs, VC.fillL, VC.putL, VC.stW, VC.stOK, VC.mixF, VC.setAll, Nat.reduceAdd, Nat.reduceSub, Nat.reduceMul, if_true, if_false, ↓reduceIte, forall_const, implies_true, reduceCtorEq, ne_eq, Nat.reduceBNe, Nat.reduceBEq, IntKind.signed, Nat.reduceEqDiff, Nat.reduceLeDiff, Nat.reduceLT, eq_self, Int.reduceEq, Int.reduceLT, Int.reduceLE, Int.reduceAdd, Int.reduceSub, VC.regC_nil, VC.regC_cons, VC.regCK_eq, VC.callQ, VC.tailQ, VC.goCall, VC.chStep]
      have hmany := hd.many i hi
      have hmx2 := (hok.op i hi).many
      have hhas : ∀ wr, Below wx.heap.size wx wr → Calls Try.prog 56 #[.slice Av (sn i).length cv, .int .i64 x] wr fun e w' => e = .returned (.bool (decide (x ∈ sn i))) ∧ Below wr.heap.size wr w' := fun wr hwr => by
        have := has_any Av cv ((sn i).map fun y : Nat => (y : Int)) x wr ((sn_rd (v := a.uv i) hos).below hwr) (by rw [List.length_map]; omega)
        rw [List.length_map, sn_has] at this
        exact this.mono fun e w' ⟨h1, h2⟩ => ⟨h1, h2 ▸ Below.refl _ _⟩
      refine ⟨⟨by omega, by omega⟩, CALLQ_of (v := .bool (decide (x ∈ sn i))) (fun _ wr hwr => hhas wr hwr) ?_⟩
      simp -dsimp only [Fa.F54, e9, VC.Now, VC.vc_skip, VC.vc_ret, VC.vc_exit, VC.vc_block, VC.vc_cond, VC.vc_region, VC.lib, VC.regQ, VC.loopK, VC.reg, VC.opP, VC.pv, VC.thenF, VC.blkF, VC.retF, VC.resV, VC.oneV, VC.evo, VC.bin, VC.binI, VC.cmpI, VC.arithI, VC.ldv, VC.slv, VC.pickP, VC.holds, VC.chainOf, VC.look, VC.junk, VC.put, VC.eff, VC.callee, VC.pureB, VC.rdK, VC.rdKs, VC.okKs, VC.eqKs, VC.fillL, VC.putL, VC.stW, VC.stOK, VC.mixF, VC.setAll, Nat.reduceAdd, Nat.reduceSub, Nat.reduceMul, if_true, if_false, ↓reduceIte, forall_const, implies_true, reduceCtorEq, ne_eq, Nat.reduceBNe, Nat.reduceBEq, IntKind.signed, Nat.reduceEqDiff, Nat.reduceLeDiff, Nat.reduceLT, eq_self, Int.reduceEq, Int.reduceLT, Int.reduceLE, Int.reduceAdd, Int.reduceSub, VC.regC_nil, VC.regC_cons, VC.regCK_eq, VC.callQ, VC.tailQ, VC.goCall, VC.chStep]
      intro u2 wy hwy
      by_cases hsx : x ∈ sn i
      · have hbt := (hd.seen i hi x).2 hsx
        have hr2 : rstep n c t s = (6, s) := by rw [hr]; unfold rreach; rw [if_pos hbt]
        have e10 : decide (x ∈ sn i) = true := decide_eq_true hsx
        simp -dsimp only [Fa.F54, e9, e10, VC.Now, VC.vc, VC.lib, VC.regQ, VC.loopK, VC.reg, VC.opP, VC.pv, VC.thenF, VC.blkF, VC.retF, VC.resV, VC.oneV, VC.evo, VC.bin, VC.binI, VC.cmpI, VC.arithI, VC.ldv, VC.slv, VC.pickP, VC.holds, VC.chainOf, VC.look, VC.junk, VC.put, VC.eff, VC.callee, VC.pureB, VC.rdK, VC.rdKs, VC.okKs, VC.eqKs, VC.fillL, VC.putL, VC.stW, VC.stOK, VC.mixF, VC.setAll, Nat.reduceAdd, Nat.reduceSub, Nat.reduceMul, if_true, if_false, ↓reduceIte, forall_const, implies_true, reduceCtorEq, ne_eq, Nat.reduceBNe, Nat.reduceBEq, IntKind.signed, Nat.reduceEqDiff, Nat.reduceLeDiff, Nat.reduceLT, eq_self, Int.reduceEq, Int.reduceLT, Int.reduceLE, Int.reduceAdd, Int.reduceSub, VC.regC_nil, VC.regC_cons, VC.regCK_eq, VC.callQ, VC.tailQ, VC.goCall, VC.chStep]
        exact ⟨fun _ => DPost.same h hd (hsb ▸ hBw.trans (hwy.mono (hsb ▸ hBw.size))) hr2, fun hh => absurd hsx hh⟩
      have hbt : ¬ (s.op i).seen.testBit x = true := fun hh => hsx ((hd.seen i hi x).1 hh)
      have e10 : decide (x ∈ sn i) = false := decide_eq_false hsx
      replace bx := bx.below hwy
      replace h2 := h2.below hwy
      have hBy : Below sb w wy := hBw.trans (hwy.mono (hsb ▸ hBw.size))
      clear y4 hou hos hhas k2 zx2 zx0 hgo hgu hmx bmx k1 w1x hsl hx1
      have k2 := (h2.get 0 rfl : Box wy a.mb (shelfC n a)).at (i := 2) rfl
      have hmx := (h2.get 0 rfl : Box wy a.mb (shelfC n a)).1
      have hgu := ((h2.get 3 rfl : OwnK wy 0 189 6 s.k a.vu _).lt (g := gu) (by rw [eu2]; rfl)).2
      rw [eu2] at k2
      simp -dsimp only [Fa.F54, e9, e10, rdSA_of k2, rdSN_of k2, rdSC_of k2, k2, hmx, hgu, Int.toNat_natCast, Nat.zero_add, VC.Now, VC.vc, VC.lib, VC.regQ, VC.loopK, VC.reg, VC.opP, VC.pv, VC.thenF, VC.blkF, VC.retF, VC.resV, VC.oneV, VC.evo, VC.bin, VC.binI, VC.cmpI, VC.arithI, VC.ldv, VC.slv, VC.pickP, VC.holds, VC.chainOf, VC.look, VC.junk, VC.put, VC.eff, VC.callee, VC.pureB, VC.rdK, VC.rdKs, VC.okKs, VC.eqKs, VC.fillL, VC.putL, VC.stW, VC.stOK, VC.mixF, VC.setAll, Nat.reduceAdd, Nat.reduceSub, Nat.reduceMul, if_true, if_false, ↓reduceIte, forall_const, implies_true, reduceCtorEq, ne_eq, Nat.reduceBNe, Nat.reduceBEq, IntKind.signed, Nat.reduceEqDiff, Nat.reduceLeDiff, Nat.reduceLT, eq_self, Int.reduceEq, Int.reduceLT, Int.reduceLE, Int.reduceAdd, Int.reduceSub, VC.regC_nil, VC.regC_cons, VC.regCK_eq, VC.callQ, VC.tailQ, VC.goCall, VC.chStep]
      refine ⟨fun hh => absurd hh hsx, fun _ => ⟨⟨by omega, by omega⟩, ?_⟩⟩
      have st0 := (h.perm (dmid_start (st := st) (sn := sn) (a := a) hx hi)).below_st (hsb ▸ hBy)
      have nsb : ∀ {o : Ob}, o ∈ DMid n a s st sn x i (a.sv x) (st x) (opsP s i) (unsP a s i) (a.uv i) (sn i) → ¬ o.blk = some sb := fun ho hf => hsz _ (h.perm (dmid_start hx hi)) ⟨_, ho, hf⟩
      have hos : OwnK wy 0 3 1 (sn i).length (a.uv i) (snL (sn i)) := h2.get 5 rfl
      have hou : OwnK wy 0 189 6 s.k a.vu (seqC (upd (unsP a s) i (unsP a s i)) s.k) := h2.get 3 rfl
      rw [eu2] at hou
      have y4 := (OwnK.cellS hou hKu hi (show 4 < 6 by omega) (by rw [upd_same]; rfl)).1
      have zx2 := bx.at (i := 2) rfl
      rw [hx0] at zx2
      have hsl := bx.1
      rw [ev] at y4
      have nsb5 : ¬ (a.uv i).ownBlock = some sb := fun hf => nsb (o := oOwn 3 1 (sn i).length (a.uv i) (snL (sn i))) (by simp) hf
      have ngu5 : ¬ (a.uv i).ownBlock = some gu := fun hf => h2.ne 3 5 (by decide) rfl rfl gu (show a.vu.ownBlock = some gu by rw [eu2]; rfl) hf
      refine WP_held 11 (fun l => (a.uv i).ownBlock = some l) (.take 0 (.take 1 (.take 2 (.take 3 (.take 4 (.take 5 (.take 6 (.one 7 (.one 8 (.one 9 (.take 10 (.one 11 .done)))))))))))) Fa.mix (by kernel_rfl) rfl ?_
      simp -dsimp only [VC.heldF_done, VC.heldF_last, VC.planF_done, VC.planF_take, VC.planF_one, VC.planF_two, VC.planK_eq, VC.heldF_take, VC.heldF_one, VC.heldF_two, VC.heldF_twoL, VC.heldK_eq, VC.okRd, Fa.F54, rdSA_of y4, rdSN_of y4, rdSC_of y4, y4, rdI_of zx2, zx2, hgu, hsl, VC.Now, VC.vc, VC.lib, VC.regQ, VC.loopK, VC.reg, VC.opP, VC.pv, VC.thenF, VC.blkF, VC.retF, VC.resV, VC.oneV, VC.evo, VC.bin, VC.binI, VC.cmpI, VC.arithI, VC.ldv, VC.slv, VC.pickP, VC.holds, VC.chainOf, VC.look, VC.junk, VC.put, VC.eff, VC.callee, VC.pureB, VC.rdK, VC.rdKs, VC.okKs, VC.eqKs, VC.fillL, VC.putL, VC.stW, VC.stOK, VC.mixF, VC.setAll, Nat.reduceAdd, Nat.reduceSub, Nat.reduceMul, if_true, if_false, ↓reduceIte, forall_const, implies_true, reduceCtorEq, ne_eq, Nat.reduceBNe, Nat.reduceBEq, IntKind.signed, Nat.reduceEqDiff, Nat.reduceLeDiff, Nat.reduceLT, eq_self, Int.reduceEq, Int.reduceLT, Int.reduceLE, Int.reduceAdd, Int.reduceSub, VC.regC_nil, VC.regC_cons, VC.regCK_eq, VC.callQ, VC.tailQ, VC.goCall, VC.chStep]
      have hHd := h2.drewN 1
      have ag0 : Agree (fun l => (a.uv i).ownBlock = some l) wy (wy.drewN 1) := Agree.of_below (below_drewN (Below.refl _ wy) 1)
      refine ⟨ngu5, nsb5, ag0.trans (Agree.of_below ((Below.refl _ _).alloc (Nat.le_refl _) _)), ?_⟩
      refine OPW_appK (v := a.uv i) rfl Fa.apI22 (by rw [ev]; rfl) rfl rfl (by simp [Value.oneCell']) (hHd.get 5 rfl) (Nat.zero_le _) (by omega) (by decide) fun v5 w5 ho5 hg5 hst5 => ?_
      obtain ⟨A5, c5, e5', -⟩ := id ho5
      have hl5 : (sn i).length + 1 = (sn i ++ [x]).length := by rw [List.length_append]; rfl
      have hf5 : snL (sn i) ++ [.int .i64 (x : Nat)] = snL (sn i ++ [x]) := by unfold snL; rw [List.map_append]; rfl
      change OwnK w5 0 _ 1 ((sn i).length + 1) v5 (snL (sn i) ++ [.int .i64 (x : Nat)]) at ho5
      rw [hf5, hl5] at ho5
      have hiu : (DMid n a s st sn x i (a.sv x) (st x) (opsP s i) (unsP a s i) (a.uv i) (sn i))[3]? = some (oOwn 189 6 s.k (.slice (some ⟨gu, 0, none⟩) s.k cgu) (seqC (upd (unsP a s) i (unsP a s i)) s.k)) := by rw [← eu2]; rfl
      obtain ⟨⟨r1, r2⟩, st6⟩ := growSeq hHd 3 5 hiu rfl (by decide) ho5 hg5 hst5 hKu hi (show 4 < 6 by omega) (u := a.uv i) (by rw [upd_same]; rfl)
      have ag5 := ag0.trans (Agree.grown hg5 fun l hl => hl)
      rw [upd_upd, upd_same, ← eu2] at st6
      have st7 : St B (DMid n a s st sn x i (a.sv x) (st x) (opsP s i) (unsP a s i) (a.uv i) (sn i)) wy (DMid n a s st sn x i (a.sv x) (st x) (apC (s.op i)) (unC v5 (s.op i)) v5 (sn i ++ [x])) (w5.setCell ⟨gu, i * 6 + 4, none⟩ v5) := (h2.below_st (below_drewN (Below.refl _ wy) 1)).trans st6
      have hou7 : OwnK (w5.setCell ⟨gu, i * 6 + 4, none⟩ v5) 0 189 6 s.k a.vu (seqC (upd (unsP a s) i (unC v5 (s.op i))) s.k) := st7.hp.get 3 rfl
      rw [eu2] at hou7
      have hKu7 := len_upd (P := unsP a s) (K := 6) (i := i) (k := s.k) (c := unC v5 (s.op i)) (fun _ _ => rfl) rfl
      have y3 := (OwnK.cellS hou7 hKu7 hi (show 3 < 6 by omega) (by rw [upd_same]; rfl)).1
      have hgu7 := (hou7.lt (g := gu) rfl).2
      have bx7 := bx.agree st7.agree fun ⟨o, ho, hf⟩ => nsb ho hf
      have nsb7 : ¬ foot (DMid n a s st sn x i (a.sv x) (st x) (apC (s.op i)) (unC v5 (s.op i)) v5 (sn i ++ [x])) sb := fun hf => (st7.foot sb hf).elim (fun ⟨o, ho, hf'⟩ => nsb ho hf') fun hle => by omega
      subst e5'
      have stw := st0.trans st7
      cases hsec : (s.op i).second with
      | true =>
        rw [hsec] at y3
        simp only [if_true] at y3
        simp -dsimp only [VC.heldF_done, VC.heldF_last, VC.planF_done, VC.planF_take, VC.planF_one, VC.planF_two, VC.planK_eq, VC.heldF_take, VC.heldF_one, VC.heldF_two, VC.heldF_twoL, VC.heldK_eq, VC.okRd, Fa.F54, rdSA_of y4, rdSN_of y4, rdSC_of y4, y4, hgu, hgu7, rdI_of y3, y3, Int.toNat_natCast, Nat.zero_add, VC.Now, VC.vc, VC.lib, VC.regQ, VC.loopK, VC.reg, VC.opP, VC.pv, VC.thenF, VC.blkF, VC.retF, VC.resV, VC.oneV, VC.evo, VC.bin, VC.binI, VC.cmpI, VC.arithI, VC.ldv, VC.slv, VC.pickP, VC.holds, VC.chainOf, VC.look, VC.junk, VC.put, VC.eff, VC.callee, VC.pureB, VC.rdK, VC.rdKs, VC.okKs, VC.eqKs, VC.fillL, VC.putL, VC.stW, VC.stOK, VC.mixF, VC.setAll, Nat.reduceAdd, Nat.reduceSub, Nat.reduceMul, if_true, if_false, ↓reduceIte, forall_const, implies_true, reduceCtorEq, ne_eq, Nat.reduceBNe, Nat.reduceBEq, IntKind.signed, Nat.reduceEqDiff, Nat.reduceLeDiff, Nat.reduceLT, eq_self, Int.reduceEq, Int.reduceLT, Int.reduceLE, Int.reduceAdd, Int.reduceSub, VC.regC_nil, VC.regC_cons, VC.regCK_eq, VC.callQ, VC.tailQ, VC.goCall, VC.chStep]
        refine ⟨ag5, ag5, ⟨r1, r2⟩, ?_⟩
        generalize w5.setCell ⟨gu, i * 6 + 4, none⟩ (.slice A5 ((sn i).length + 1) c5) = w7 at stw bx7 ⊢
        try clear st0
        try clear st6
        try clear st7
        try clear hou
        try clear hou7
        try clear hiu
        try clear hsz
        try clear hB0
        try clear hwb
        try clear h1
        try clear z0
        try clear z1
        try clear z2
        try clear e1
        try clear e2
        try clear e3
        try clear e6
        try clear e7
        try clear hbm
        try clear hml
        try clear m0
        try clear m1
        try clear eo
        try clear e5
        try clear e4
        try clear hj4
        try clear hjN
        try clear hkb
        try clear hBx
        try clear hkm
        try clear hf
        try clear hk2
        try clear e8
        try clear hxN
        try clear hBw
        try clear hnow
        try clear e9
        try clear ev
        try clear hKu
        try clear hwy
        try clear hsx
        try clear e10
        try clear bx
        try clear h2
        try clear hBy
        try clear k2
        try clear hmx
        try clear hgu
        try clear hos
        try clear y4
        try clear zx2
        try clear hsl
        try clear nsb5
        try clear ngu5
        try clear hHd
        try clear ag0
        try clear hg5
        try clear hl5
        try clear hf5
        try clear r1
        try clear r2
        try clear ag5
        try clear hst5
        try clear ho5
        try clear hKu7
        try clear hgu7
        try clear y3
        try clear h
        try clear hk
        try clear hw
        try clear ha
        try clear x0
        try clear hsb
        try clear hB0
        try clear m
        try clear w5
        try clear wx
        try clear w1
        try clear k
        revert B n t a s st sn w c sb Ao co j u u1 uu x i go cgo gu cgu Av cv u2 wy A5 c5 w7
        exact HH.1
      | false =>
        rw [hsec] at y3
        simp only [Bool.false_eq_true, if_false] at y3
        simp -dsimp only [VC.heldF_done, VC.heldF_last, VC.planF_done, VC.planF_take, VC.planF_one, VC.planF_two, VC.planK_eq, VC.heldF_take, VC.heldF_one, VC.heldF_two, VC.heldF_twoL, VC.heldK_eq, VC.okRd, Fa.F54, rdSA_of y4, rdSN_of y4, rdSC_of y4, y4, hgu, hgu7, rdI_of y3, y3, Int.toNat_natCast, Nat.zero_add, VC.Now, VC.vc, VC.lib, VC.regQ, VC.loopK, VC.reg, VC.opP, VC.pv, VC.thenF, VC.blkF, VC.retF, VC.resV, VC.oneV, VC.evo, VC.bin, VC.binI, VC.cmpI, VC.arithI, VC.ldv, VC.slv, VC.pickP, VC.holds, VC.chainOf, VC.look, VC.junk, VC.put, VC.eff, VC.callee, VC.pureB, VC.rdK, VC.rdKs, VC.okKs, VC.eqKs, VC.fillL, VC.putL, VC.stW, VC.stOK, VC.mixF, VC.setAll, Nat.reduceAdd, Nat.reduceSub, Nat.reduceMul, if_true, if_false, ↓reduceIte, forall_const, implies_true, reduceCtorEq, ne_eq, Nat.reduceBNe, Nat.reduceBEq, IntKind.signed, Nat.reduceEqDiff, Nat.reduceLeDiff, Nat.reduceLT, eq_self, Int.reduceEq, Int.reduceLT, Int.reduceLE, Int.reduceAdd, Int.reduceSub, VC.regC_nil, VC.regC_cons, VC.regCK_eq, VC.callQ, VC.tailQ, VC.goCall, VC.chStep]
        refine ⟨ag5, ag5, ⟨r1, r2⟩, ?_⟩
        generalize w5.setCell ⟨gu, i * 6 + 4, none⟩ (.slice A5 ((sn i).length + 1) c5) = w7 at stw bx7 ⊢
        try clear st0
        try clear st6
        try clear st7
        try clear hou
        try clear hou7
        try clear hiu
        try clear hsz
        try clear hB0
        try clear hwb
        try clear h1
        try clear z0
        try clear z1
        try clear z2
        try clear e1
        try clear e2
        try clear e3
        try clear e6
        try clear e7
        try clear hbm
        try clear hml
        try clear m0
        try clear m1
        try clear eo
        try clear e5
        try clear e4
        try clear hj4
        try clear hjN
        try clear hkb
        try clear hBx
        try clear hkm
        try clear hf
        try clear hk2
        try clear e8
        try clear hxN
        try clear hBw
        try clear hnow
        try clear e9
        try clear ev
        try clear hKu
        try clear hwy
        try clear hsx
        try clear e10
        try clear bx
        try clear h2
        try clear hBy
        try clear k2
        try clear hmx
        try clear hgu
        try clear hos
        try clear y4
        try clear zx2
        try clear hsl
        try clear nsb5
        try clear ngu5
        try clear hHd
        try clear ag0
        try clear hg5
        try clear hl5
        try clear hf5
        try clear r1
        try clear r2
        try clear ag5
        try clear hst5
        try clear ho5
        try clear hKu7
        try clear hgu7
        try clear y3
        try clear h
        try clear hk
        try clear hw
        try clear ha
        try clear x0
        try clear hsb
        try clear hB0
        try clear m
        try clear w5
        try clear wx
        try clear w1
        try clear k
        revert B n t a s st sn w c sb Ao co j u u1 uu x i go cgo gu cgu Av cv u2 wy A5 c5 w7
        exact HH.2
end Go.Proofs.Ytnggjekppdlaoaa
