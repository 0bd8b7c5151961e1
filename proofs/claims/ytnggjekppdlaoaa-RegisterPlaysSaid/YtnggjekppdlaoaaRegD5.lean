/- Many copies as one, the document's: an op begins. -/
import Derived.Test.YtnggjekppdlaoaaRegD4
namespace Go.Proofs.Ytnggjekppdlaoaa
open Go Go.RowKit Go.VC
set_option linter.unusedSimpArgs false
set_option linter.unusedVariables false
def atI : Option Nat → Int
  | none => -1
  | some i => i
theorem perm_in {H S N : List Ob} {o : Ob} : (o :: (H ++ (S ++ N))).Perm (H ++ (S ++ (N ++ [o]))) := by
  have : H ++ (S ++ (N ++ [o])) = (H ++ (S ++ N)) ++ [o] := by simp
  rw [this]; exact (List.perm_append_singleton _ _).symm
theorem dbegin_end {n : Nat} {a : DA} {s : RS} {st : Nat → List Sto} {sn : Nat → List Nat} {o : OpS} {now' : Nat → Option Nat} {v5 v6 : Value} (ho : o.b = sto0 ∧ o.second = false) :
    (oOwn 3 1 0 (.slice none 0 0) [] :: ([oBox a.mb (((shelfC n a).set 1 v5).set 2 v6), oRecs a.gs n 1 (fun i => [a.sv i]), oOwn 145 6 (s.k + 1) v5 (seqC (opsP s) s.k ++ apC o), oOwn 189 6 (s.k + 1) v6 (seqC (unsP a s) s.k ++ [.int .i64 0, .int .i64 0, .int .i64 0, .int .i64 1, .slice none 0 0, .int .i64 0])] ++ ((List.range n).map (stB a st) ++ (List.range s.k).map (snB a sn)))).Perm
      (DObs n { a with vo := v5, vu := v6, uv := upd a.uv s.k (.slice none 0 0) } { s with k := s.k + 1, op := upd s.op s.k o, now := now' } st (upd sn s.k [])) := by
  have e1 : seqC (opsP { s with k := s.k + 1, op := upd s.op s.k o, now := now' }) (s.k + 1) = seqC (opsP s) s.k ++ apC o := by
    rw [seqC_succ]
    refine congr (congrArg _ (seqC_congr fun i hi => ?_)) ?_
    · show apC (upd s.op s.k o i) = _; rw [upd_other (by omega)]
    · show apC (upd s.op s.k o s.k) = _; rw [upd_same]
  have e2 : seqC (unsP { a with vo := v5, vu := v6, uv := upd a.uv s.k (.slice none 0 0) } { s with k := s.k + 1, op := upd s.op s.k o, now := now' }) (s.k + 1) = seqC (unsP a s) s.k ++ [.int .i64 0, .int .i64 0, .int .i64 0, .int .i64 1, .slice none 0 0, .int .i64 0] := by
    rw [seqC_succ]
    refine congr (congrArg _ (seqC_congr fun i hi => ?_)) ?_
    · show unC (upd a.uv s.k _ i) (upd s.op s.k o i) = _; rw [upd_other (by omega), upd_other (f := s.op) (by omega)]
    · show unC (upd a.uv s.k _ s.k) (upd s.op s.k o s.k) = _; rw [upd_same, upd_same]; unfold unC; rw [ho.1, ho.2]; rfl
  have e3 : (List.range (s.k + 1)).map (snB { a with vo := v5, vu := v6, uv := upd a.uv s.k (.slice none 0 0) } (upd sn s.k [])) = (List.range s.k).map (snB a sn) ++ [oOwn 3 1 0 (.slice none 0 0) []] := by
    rw [List.range_succ, List.map_append]
    refine congr (congrArg _ (List.map_congr_left fun i hi => ?_)) ?_
    · have := List.mem_range.1 hi
      unfold snB
      show oOwn _ 1 _ (upd a.uv s.k _ i) _ = _
      rw [upd_other (by omega), upd_other (f := a.uv) (by omega)]
    · show [snB _ _ s.k] = _
      unfold snB
      show [oOwn _ 1 _ (upd a.uv s.k _ s.k) _] = _
      rw [upd_same, upd_same]; rfl
  have e4 : (List.range n).map (stB { a with vo := v5, vu := v6, uv := upd a.uv s.k (.slice none 0 0) } st) = (List.range n).map (stB a st) := rfl
  unfold DObs DHead
  show List.Perm _ ([oBox a.mb _, oRecs a.gs n 1 _, oOwn _ 6 (s.k + 1) v5 (seqC (opsP { s with k := s.k + 1, op := upd s.op s.k o, now := now' }) (s.k + 1)), oOwn _ 6 (s.k + 1) v6 (seqC (unsP { a with vo := v5, vu := v6, uv := upd a.uv s.k (.slice none 0 0) } { s with k := s.k + 1, op := upd s.op s.k o, now := now' }) (s.k + 1))] ++ ((List.range n).map (stB { a with vo := v5, vu := v6, uv := upd a.uv s.k (.slice none 0 0) } st) ++ (List.range (s.k + 1)).map (snB { a with vo := v5, vu := v6, uv := upd a.uv s.k (.slice none 0 0) } (upd sn s.k []))))
  rw [e1, e2, e3, e4]
  exact perm_in
section
variable {B n t : Nat} {a : DA} {s : RS} {st : Nat → List Sto} {sn : Nat → List Nat} {w : World}

set_option maxRecDepth 8000 in
set_option maxHeartbeats 8000000 in
theorem dstep_begin (h : Hp B (DObs n a s st sn) w) (hd : DRel t s st sn) (hok : ROK n t s) (hn : n ≤ 5) (ht : t ≤ 120) (c : Call) (hk : c.kind = 1) (hw : 0 ≤ c.who ∧ c.who < 4) :
    Calls Try.prog 54 #[.pointer (some ⟨a.mb, 0, none⟩), callV c, .int .i64 t] w (DPost B n t a s st sn w (rstep n c t s)) := by
  have x0 := Box.new w (callL c) 142
  have hB0 : Below w.heap.size w (w.alloc (.cells (callL c).toArray 142)) := (Below.refl _ _).alloc (Nat.le_refl _) _
  refine calls_vc (rs := [.tmp 6]) Fa.mix Try.func54 rfl Try.ntmps54 rfl (by kernel_rfl) (Nat.le_of_ble_eq_true rfl) ?_
  (repeat rw [vc_seq]); refine vc_plain _ fun Q hQ => ?_; simp -dsimp only [Fa.F54, VC.Now, VC.vc_skip, VC.vc_ret, VC.vc_exit, VC.vc_block, VC.vc_cond, VC.vc_region, VC.lib, VC.regQ, VC.loopK, VC.reg, VC.opP, VC.pv, VC.thenF, VC.blkF, VC.retF, VC.resV, VC.oneV, VC.evo, VC.bin, VC.binI, VC.cmpI, VC.arithI, VC.ldv, VC.slv, VC.pickP, VC.holds, VC.chainOf, VC.look, VC.junk, VC.put, VC.eff, VC.callee, VC.pureB, VC.rdK, VC.rdKs, VC.okKs, VC.eqKs, VC.fillL, VC.putL, VC.stW, VC.stOK, VC.mixF, VC.setAll, Nat.reduceAdd, Nat.reduceSub, Nat.reduceMul, if_true, if_false, ↓reduceIte, forall_const, implies_true, reduceCtorEq, ne_eq, Nat.reduceBNe, Nat.reduceBEq, IntKind.signed, Nat.reduceEqDiff, Nat.reduceLeDiff, Nat.reduceLT, eq_self, Int.reduceEq, Int.reduceLT, Int.reduceLE, Int.reduceAdd, Int.reduceSub, VC.regC_nil, VC.regC_cons, VC.regCK_eq, VC.callQ, VC.tailQ, VC.goCall, VC.chStep]
  change Q _ _ (w.alloc (.cells (callL c).toArray 142))
  generalize w.alloc (.cells (callL c).toArray 142) = w1 at x0 hB0 ⊢
  have hsz : ∀ L : List Ob, Hp B L w → ¬ foot L w.heap.size := fun L hL hf => by have := (hL.foot_lt hf).2; omega
  have hwb := h.base
  generalize hsb : w.heap.size = sb at x0 hsz hB0 hwb ⊢
  have h1 := h.below (hsb ▸ hB0)
  have z0 := x0.at (i := 0) rfl
  have z1 := x0.at (i := 1) rfl
  have z2 := x0.at (i := 2) rfl
  have e1 : (c.kind = 1) = True := eq_true (by omega)
  have e2 : (c.kind = 2) = False := eq_false (by omega)
  have e3 : (c.kind = 3) = False := eq_false (by omega)
  have e4 : (c.who < 0) = False := eq_false (by omega)
  have e5 : (4 ≤ c.who) = False := eq_false (by omega)
  
  have hbm := (h1.get 0 rfl : Box w1 a.mb (shelfC n a))
  have hml := hbm.1
  have m0 := hbm.at (i := 0) rfl
  have m1 := hbm.at (i := 1) rfl
  obtain ⟨Ao, co, eo, _⟩ := id (h1.get 2 rfl : OwnK w1 0 145 6 s.k a.vo _)
  rw [eo] at m1
  obtain ⟨j, hj⟩ : ∃ j : Nat, c.who = j := ⟨c.who.toNat, by omega⟩
  have hj4 : j < 4 := by omega
  have hjN : c.who.toNat = j := by omega
  rw [hj] at z1 e4 e5
  have hkb := hok.k
  subst hQ
  simp -dsimp only [Fa.F54, rdI_of z0, z0, rdI_of z1, z1, rdI_of z2, z2, rdSA_of m0, rdSN_of m0, rdSC_of m0, m0, rdSA_of m1, rdSN_of m1, rdSC_of m1, m1, hml, e1, e2, e3, e4, e5, undef, tu, uf, ul, ur, VC.Now, VC.vc, VC.lib, VC.regQ, VC.loopK, VC.reg, VC.opP, VC.pv, VC.thenF, VC.blkF, VC.retF, VC.resV, VC.oneV, VC.evo, VC.bin, VC.binI, VC.cmpI, VC.arithI, VC.ldv, VC.slv, VC.pickP, VC.holds, VC.chainOf, VC.look, VC.junk, VC.put, VC.eff, VC.callee, VC.pureB, VC.rdK, VC.rdKs, VC.okKs, VC.eqKs, VC.fillL, VC.putL, VC.stW, VC.stOK, VC.mixF, VC.setAll, Nat.reduceAdd, Nat.reduceSub, Nat.reduceMul, if_true, if_false, ↓reduceIte, forall_const, implies_true, reduceCtorEq, ne_eq, Nat.reduceBNe, Nat.reduceBEq, IntKind.signed, Nat.reduceEqDiff, Nat.reduceLeDiff, Nat.reduceLT, eq_self, Int.reduceEq, Int.reduceLT, Int.reduceLE, Int.reduceAdd, Int.reduceSub, VC.regC_nil, VC.regC_cons, VC.regCK_eq, VC.callQ, VC.tailQ, VC.goCall, VC.chStep]
  intro u u1 m
  have hB1 : Below w1.heap.size w1 (w1.drewN m) := below_drewN (Below.refl _ w1) m
  refine loop_slots Fa.mix [7, 8] [111, 112, 113, 114, 115, 116, 117, 118, 119, 120, 121, 122, 123, 124, 125, 126, 127, 128, 129, 130, 131, 132, 133, 134, 135, 136, 137, 138, 139, 140, 141, 142] (fun m vs wx => ∃ k : Nat, k + m = s.k ∧ vs = [.int .i64 (atI (findO s j k)), .int .i64 k] ∧ Below w1.heap.size w1 wx) s.k (by kernel_rfl) rfl
    ⟨0, by omega, rfl, hB1⟩ ?_
  clear hB1 m
  rintro m vs uu wx ⟨k, hkm, rfl, hBx⟩
  have hx1 := h1.below hBx
  have bx := x0.below hBx
  have hsl := bx.1
  have bmx := (hx1.get 0 rfl : Box wx a.mb (shelfC n a))
  have hmx := bmx.1
  have k1 := bmx.at (i := 1) rfl
  rw [eo] at k1
  have w1x := bx.at (i := 1) rfl
  rw [hj] at w1x
  have hf : findO s j (k + 1) = if (s.op k).who = j ∧ (s.op k).to < 0 then some k else findO s j k := rfl
  by_cases hk2 : k < s.k
  · have e8 : ((k : Int) < s.k) = True := eq_true (by omega)
    obtain ⟨go, cg, eg, _, hgo⟩ := (hx1.get 2 rfl : OwnK wx 0 145 6 s.k a.vo _).form (by omega)
    rw [eg] at eo
    cases eo
    have hoo : OwnK wx 0 145 6 s.k a.vo (seqC (opsP s) s.k) := hx1.get 2 rfl
    rw [eg] at hoo
    have y0 := (OwnK.cellS hoo (fun _ _ => rfl) hk2 (show 0 < 6 by omega) rfl).1
    have y5 := (OwnK.cellS hoo (fun _ _ => rfl) hk2 (show 5 < 6 by omega) rfl).1
    simp only [Nat.add_zero] at y0
    by_cases q1 : (s.op k).who = j
    · have f1 := eq_true q1
      by_cases q2 : (s.op k).to < 0
      · have f2 := eq_true q2
        rw [if_pos ⟨q1, q2⟩] at hf
        simp -dsimp only [Fa.F54, e8, rdSA_of k1, rdSN_of k1, rdSC_of k1, k1, rdI_of y0, y0, rdI_of y5, y5, rdI_of w1x, w1x, hmx, hgo, hsl, f1, f2, Int.toNat_natCast, Nat.zero_add, undef, tu, uf, ul, ur, VC.Now, VC.vc, VC.lib, VC.regQ, VC.loopK, VC.reg, VC.opP, VC.pv, VC.thenF, VC.blkF, VC.retF, VC.resV, VC.oneV, VC.evo, VC.bin, VC.binI, VC.cmpI, VC.arithI, VC.ldv, VC.slv, VC.pickP, VC.holds, VC.chainOf, VC.look, VC.junk, VC.put, VC.eff, VC.callee, VC.pureB, VC.rdK, VC.rdKs, VC.okKs, VC.eqKs, VC.fillL, VC.putL, VC.stW, VC.stOK, VC.mixF, VC.setAll, Nat.reduceAdd, Nat.reduceSub, Nat.reduceMul, if_true, if_false, ↓reduceIte, forall_const, implies_true, reduceCtorEq, ne_eq, Nat.reduceBNe, Nat.reduceBEq, IntKind.signed, Nat.reduceEqDiff, Nat.reduceLeDiff, Nat.reduceLT, eq_self, Int.reduceEq, Int.reduceLT, Int.reduceLE, Int.reduceAdd, Int.reduceSub, VC.regC_nil, VC.regC_cons, VC.regCK_eq, VC.callQ, VC.tailQ, VC.goCall, VC.chStep]
        exact ⟨by omega, by omega, fun _ m1 => ⟨fits_i64 (by omega) (by omega), SAME.intro (by kernel_rfl), m - 1, by omega, k + 1, by omega, by rw [hf]; rfl, hBx.trans ((below_drewN (Below.refl _ wx) m1).mono hBx.size)⟩⟩
      · have f2 := eq_false q2
        rw [if_neg fun hh => q2 hh.2] at hf
        simp -dsimp only [Fa.F54, e8, rdSA_of k1, rdSN_of k1, rdSC_of k1, k1, rdI_of y0, y0, rdI_of y5, y5, rdI_of w1x, w1x, hmx, hgo, hsl, f1, f2, Int.toNat_natCast, Nat.zero_add, undef, tu, uf, ul, ur, VC.Now, VC.vc, VC.lib, VC.regQ, VC.loopK, VC.reg, VC.opP, VC.pv, VC.thenF, VC.blkF, VC.retF, VC.resV, VC.oneV, VC.evo, VC.bin, VC.binI, VC.cmpI, VC.arithI, VC.ldv, VC.slv, VC.pickP, VC.holds, VC.chainOf, VC.look, VC.junk, VC.put, VC.eff, VC.callee, VC.pureB, VC.rdK, VC.rdKs, VC.okKs, VC.eqKs, VC.fillL, VC.putL, VC.stW, VC.stOK, VC.mixF, VC.setAll, Nat.reduceAdd, Nat.reduceSub, Nat.reduceMul, if_true, if_false, ↓reduceIte, forall_const, implies_true, reduceCtorEq, ne_eq, Nat.reduceBNe, Nat.reduceBEq, IntKind.signed, Nat.reduceEqDiff, Nat.reduceLeDiff, Nat.reduceLT, eq_self, Int.reduceEq, Int.reduceLT, Int.reduceLE, Int.reduceAdd, Int.reduceSub, VC.regC_nil, VC.regC_cons, VC.regCK_eq, VC.callQ, VC.tailQ, VC.goCall, VC.chStep]
        exact ⟨by omega, by omega, fun _ m1 => ⟨fits_i64 (by omega) (by omega), SAME.intro (by kernel_rfl), m - 1, by omega, k + 1, by omega, by rw [hf]; rfl, hBx.trans ((below_drewN (Below.refl _ wx) m1).mono hBx.size)⟩⟩
    · have f1 := eq_false q1
      rw [if_neg fun hh => q1 hh.1] at hf
      simp -dsimp only [Fa.F54, e8, rdSA_of k1, rdSN_of k1, rdSC_of k1, k1, rdI_of y0, y0, rdI_of y5, y5, rdI_of w1x, w1x, hmx, hgo, hsl, f1, Int.toNat_natCast, Nat.zero_add, undef, tu, uf, ul, ur, VC.Now, VC.vc, VC.lib, VC.regQ, VC.loopK, VC.reg, VC.opP, VC.pv, VC.thenF, VC.blkF, VC.retF, VC.resV, VC.oneV, VC.evo, VC.bin, VC.binI, VC.cmpI, VC.arithI, VC.ldv, VC.slv, VC.pickP, VC.holds, VC.chainOf, VC.look, VC.junk, VC.put, VC.eff, VC.callee, VC.pureB, VC.rdK, VC.rdKs, VC.okKs, VC.eqKs, VC.fillL, VC.putL, VC.stW, VC.stOK, VC.mixF, VC.setAll, Nat.reduceAdd, Nat.reduceSub, Nat.reduceMul, if_true, if_false, ↓reduceIte, forall_const, implies_true, reduceCtorEq, ne_eq, Nat.reduceBNe, Nat.reduceBEq, IntKind.signed, Nat.reduceEqDiff, Nat.reduceLeDiff, Nat.reduceLT, eq_self, Int.reduceEq, Int.reduceLT, Int.reduceLE, Int.reduceAdd, Int.reduceSub, VC.regC_nil, VC.regC_cons, VC.regCK_eq, VC.callQ, VC.tailQ, VC.goCall, VC.chStep]
      exact ⟨by omega, fun _ m1 => ⟨fits_i64 (by omega) (by omega), SAME.intro (by kernel_rfl), m - 1, by omega, k + 1, by omega, by rw [hf]; rfl, hBx.trans ((below_drewN (Below.refl _ wx) m1).mono hBx.size)⟩⟩
  obtain rfl : k = s.k := by omega
  have e8 : ((s.k : Int) < s.k) = False := eq_false (by omega)
  rw [findO_now hok]
  have zx0 := bx.at (i := 0) rfl
  have zx4 := bx.at (i := 4) rfl
  have zx5 := bx.at (i := 5) rfl
  have hBw : Below sb w wx := hB0.trans (hBx.mono (hsb ▸ hB0.size))
  cases hnow : s.now j with
  | some i =>
    have e9 : (0 ≤ (i : Int)) = True := eq_true (by omega)
    have hr : rstep n c t s = (6, s) := by unfold rstep; rw [if_neg (by omega), if_neg (by omega), if_pos hk]; unfold rbegin; rw [hjN, hnow]; rfl
    simp -dsimp only [Fa.F54, e8, e1, e9, rdSA_of k1, rdSN_of k1, rdSC_of k1, k1, rdI_of zx0, zx0, hmx, hsl, atI, undef, tu, uf, ul, ur, VC.Now, VC.vc, VC.lib, VC.regQ, VC.loopK, VC.reg, VC.opP, VC.pv, VC.thenF, VC.blkF, VC.retF, VC.resV, VC.oneV, VC.evo, VC.bin, VC.binI, VC.cmpI, VC.arithI, VC.ldv, VC.slv, VC.pickP, VC.holds, VC.chainOf, VC.look, VC.junk, VC.put, VC.eff, VC.callee, VC.pureB, VC.rdK, VC.rdKs, VC.okKs, VC.eqKs, VC.fillL, VC.putL, VC.stW, VC.stOK, VC.mixF, VC.setAll, Nat.reduceAdd, Nat.reduceSub, Nat.reduceMul, if_true, if_false, ↓reduceIte, forall_const, implies_true, reduceCtorEq, ne_eq, Nat.reduceBNe, Nat.reduceBEq, IntKind.signed, Nat.reduceEqDiff, Nat.reduceLeDiff, Nat.reduceLT, eq_self, Int.reduceEq, Int.reduceLT, Int.reduceLE, Int.reduceAdd, Int.reduceSub, VC.regC_nil, VC.regC_cons, VC.regCK_eq, VC.callQ, VC.tailQ, VC.goCall, VC.chStep]
    exact DPost.same h hd (hsb ▸ hBw) hr
  | none =>
    have e9 : (0 ≤ (-1 : Int)) = False := eq_false (by decide)
    have hr : rstep n c t s = (0, { s with k := s.k + 1, op := upd s.op s.k (newOp c t), now := upd s.now j (some s.k) }) := by unfold rstep; rw [if_neg (by omega), if_neg (by omega), if_pos hk]; unfold rbegin; rw [hjN, hnow]; rfl
    have hnew : (wx.alloc (.cells (apC (newOp c t)).toArray 145)).heap.size = wx.heap.size + 1 := by simp
    have st0 := hx1.st_add (o := oBox wx.heap.size (apC (newOp c t))) ((Below.refl _ wx).alloc (Nat.le_refl _) (.cells (apC (newOp c t)).toArray 145)) (Box.new wx _ _) (fun g hg => by cases hg; exact Nat.le_refl _)
    cases hwr : c.wr with
    | true =>
      rw [hwr] at zx4
      simp -dsimp only [Fa.F54, e8, e1, e9, rdSA_of k1, rdSN_of k1, rdSC_of k1, k1, rdI_of zx0, zx0, rdI_of w1x, w1x, rdB_of zx4, zx4, rdI_of zx5, zx5, hmx, hsl, atI, undef, tu, uf, ul, ur, VC.Now, VC.vc, VC.lib, VC.regQ, VC.loopK, VC.reg, VC.opP, VC.pv, VC.thenF, VC.blkF, VC.retF, VC.resV, VC.oneV, VC.evo, VC.bin, VC.binI, VC.cmpI, VC.arithI, VC.ldv, VC.slv, VC.pickP, VC.holds, VC.chainOf, VC.look, VC.junk, VC.put, VC.eff, VC.callee, VC.pureB, VC.rdK, VC.rdKs, VC.okKs, VC.eqKs, VC.fillL, VC.putL, VC.stW, VC.stOK, VC.mixF, VC.setAll, Nat.reduceAdd, Nat.reduceSub, Nat.reduceMul, if_true, if_false, ↓reduceIte, forall_const, implies_true, reduceCtorEq, ne_eq, Nat.reduceBNe, Nat.reduceBEq, IntKind.signed, Nat.reduceEqDiff, Nat.reduceLeDiff, Nat.reduceLT, eq_self, Int.reduceEq, Int.reduceLT, Int.reduceLE, Int.reduceAdd, Int.reduceSub, VC.regC_nil, VC.regC_cons, VC.regCK_eq, VC.callQ, VC.tailQ, VC.goCall, VC.chStep]
      have hap : newOp c t = ⟨j, true, c.val, t, -1, sto0, false, 0, 0⟩ := by unfold newOp; rw [hwr, hj]; rfl
      have st1 : St B (DObs n a s st sn) wx (oBox wx.heap.size (apC (newOp c t)) :: DObs n a s st sn) (wx.alloc (.cells #[.int .i64 j, .int .i64 0, .bool true, .int .i64 c.val, .int .i64 t, .int .i64 (-1)] 145)) := by rw [hap] at st0 ⊢; exact st0
      have hBy : Below wx.heap.size wx (wx.alloc (.cells #[.int .i64 j, .int .i64 0, .bool true, .int .i64 c.val, .int .i64 t, .int .i64 (-1)] 145)) := (Below.refl _ wx).alloc (Nat.le_refl _) _
      generalize wx.alloc (.cells #[.int .i64 j, .int .i64 0, .bool true, .int .i64 c.val, .int .i64 t, .int .i64 (-1)] 145) = wy at st1 hBy ⊢
      have hsw : sb < wx.heap.size := hsl
      generalize wx.heap.size = ob at st1 hsw ⊢
      have hy := st1.hp
      have bo : Box wy ob (apC (newOp c t)) := hy.get 0 rfl
      rw [hap] at bo
      have o0 := bo.at (i := 0) rfl
      have o1 := bo.at (i := 1) rfl
      have o2 := bo.at (i := 2) rfl
      have o3 := bo.at (i := 3) rfl
      have o4 := bo.at (i := 4) rfl
      have o5 := bo.at (i := 5) rfl
      have hol := bo.1
      have bm : Box wy a.mb (shelfC n a) := hy.get 1 rfl
      have k1 := bm.at (i := 1) rfl
      have hml := bm.1
      rw [eo] at k1
      refine WP_held 10 (fun l => a.vo.ownBlock = some l) (.take 0 (.take 1 (.take 2 (.take 3 (.take 4 (.take 5 (.one 6 (.one 7 (.one 8 (.take 9 (.one 10 .done))))))))))) Fa.mix (by kernel_rfl) rfl ?_
      simp -dsimp only [VC.heldF_done, VC.heldF_last, VC.planF_done, VC.planF_take, VC.planF_one, VC.planF_two, VC.planK_eq, VC.heldF_take, VC.heldF_one, VC.heldF_two, VC.heldF_twoL, VC.heldK_eq, VC.okRd, Fa.F54, rdSA_of k1, rdSN_of k1, rdSC_of k1, k1, rdI_of o0, o0, rdI_of o1, o1, rdB_of o2, o2, rdI_of o3, o3, rdI_of o4, o4, rdI_of o5, o5, hol, hml, VC.Now, VC.vc, VC.lib, VC.regQ, VC.loopK, VC.reg, VC.opP, VC.pv, VC.thenF, VC.blkF, VC.retF, VC.resV, VC.oneV, VC.evo, VC.bin, VC.binI, VC.cmpI, VC.arithI, VC.ldv, VC.slv, VC.pickP, VC.holds, VC.chainOf, VC.look, VC.junk, VC.put, VC.eff, VC.callee, VC.pureB, VC.rdK, VC.rdKs, VC.okKs, VC.eqKs, VC.fillL, VC.putL, VC.stW, VC.stOK, VC.mixF, VC.setAll, Nat.reduceAdd, Nat.reduceSub, Nat.reduceMul, if_true, if_false, ↓reduceIte, forall_const, implies_true, reduceCtorEq, ne_eq, Nat.reduceBNe, Nat.reduceBEq, IntKind.signed, Nat.reduceEqDiff, Nat.reduceLeDiff, Nat.reduceLT, eq_self, Int.reduceEq, Int.reduceLT, Int.reduceLE, Int.reduceAdd, Int.reduceSub, VC.regC_nil, VC.regC_cons, VC.regCK_eq, VC.callQ, VC.tailQ, VC.goCall, VC.chStep]
      have nmb : ¬ a.vo.ownBlock = some a.mb := fun hf => hy.ne 1 3 (by decide) rfl rfl a.mb rfl hf
      have nob : ¬ a.vo.ownBlock = some ob := fun hf => hy.ne 0 3 (by decide) rfl rfl ob rfl hf
      have hHd := hy.drewN 1
      have ag0 : Agree (fun l => a.vo.ownBlock = some l) wy (wy.drewN 1) := Agree.of_below (below_drewN (Below.refl _ wy) 1)
      refine ⟨nmb, nob, ag0.trans (Agree.of_below ((Below.refl _ _).alloc (Nat.le_refl _) _)), ?_⟩
      refine OPW_appK (v := a.vo) rfl Fa.apI55 (by rw [eo]; rfl) rfl rfl (by simp [Value.oneCell']) (hHd.get 3 rfl) (Nat.zero_le _) (by omega) (by decide) fun v5 w5 ho5 hg5 hst5 => ?_
      obtain ⟨A5, c5, e5, _⟩ := id ho5
      have hap2 : apC (newOp c t) = [.int .i64 j, .int .i64 0, .bool true, .int .i64 c.val, .int .i64 t, .int .i64 (-1)] := by rw [hap]
      rw [← hap2] at ho5
      obtain ⟨⟨r1, r2⟩, st6⟩ := hHd.growField 1 3 rfl rfl (by decide) ho5 hg5 hst5 1 (by show 1 < 3; omega)
      have ag5 := ag0.trans (Agree.grown hg5 fun l hl => hl)
      subst e5
      have st7 := (st1.drewN 1).trans st6
      obtain ⟨Au, cu, eu, _⟩ := id (st7.hp.get 4 rfl : OwnK _ 0 189 6 s.k a.vu _)
      have bm6 : Box (w5.setCell ⟨a.mb, 1, none⟩ (.slice A5 (s.k + 1) c5)) a.mb ((shelfC n a).set 1 (.slice A5 (s.k + 1) c5)) := st7.hp.get 1 rfl
      have k2 := bm6.at (i := 2) rfl
      have hm6 := bm6.1
      rw [eu] at k2
      simp -dsimp only [VC.heldF_done, VC.heldF_last, VC.planF_done, VC.planF_take, VC.planF_one, VC.planF_two, VC.planK_eq, VC.heldF_take, VC.heldF_one, VC.heldF_two, VC.heldF_twoL, VC.heldK_eq, VC.okRd, Fa.F54, rdSA_of k1, rdSN_of k1, rdSC_of k1, k1, rdSA_of k2, rdSN_of k2, rdSC_of k2, k2, hml, hol, hm6, VC.Now, VC.vc, VC.lib, VC.regQ, VC.loopK, VC.reg, VC.opP, VC.pv, VC.thenF, VC.blkF, VC.retF, VC.resV, VC.oneV, VC.evo, VC.bin, VC.binI, VC.cmpI, VC.arithI, VC.ldv, VC.slv, VC.pickP, VC.holds, VC.chainOf, VC.look, VC.junk, VC.put, VC.eff, VC.callee, VC.pureB, VC.rdK, VC.rdKs, VC.okKs, VC.eqKs, VC.fillL, VC.putL, VC.stW, VC.stOK, VC.mixF, VC.setAll, Nat.reduceAdd, Nat.reduceSub, Nat.reduceMul, if_true, if_false, ↓reduceIte, forall_const, implies_true, reduceCtorEq, ne_eq, Nat.reduceBNe, Nat.reduceBEq, IntKind.signed, Nat.reduceEqDiff, Nat.reduceLeDiff, Nat.reduceLT, eq_self, Int.reduceEq, Int.reduceLT, Int.reduceLE, Int.reduceAdd, Int.reduceSub, VC.regC_nil, VC.regC_cons, VC.regCK_eq, VC.callQ, VC.tailQ, VC.goCall, VC.chStep]
      refine ⟨ag5, ag5, ⟨r1, r2⟩, ?_⟩
      clear st6 r1 r2 hst5 hg5 ho5 ag5 ag0 hHd
      generalize w5.setCell ⟨a.mb, 1, none⟩ (.slice A5 (s.k + 1) c5) = w6 at st7 k2 hm6 bm6 ⊢
      have hH7 := st7.hp
      refine OPW_appK (v := a.vu) rfl Fa.apI153 (by rw [eu]; rfl) rfl rfl (by simp [Value.oneCell']) (hH7.get 4 rfl) (Nat.zero_le _) (by omega) (by decide) fun v8 w8 ho8 hg8 hst8 => ?_
      obtain ⟨A8, c8, e8', _⟩ := id ho8
      obtain ⟨⟨r1, r2⟩, st8⟩ := hH7.growField 1 4 rfl rfl (by decide) ho8 hg8 hst8 2 (by show 2 < 3; omega)
      subst e8'
      rw [VC.Now, VC.seqK_eq]
      simp -dsimp only [Fa.F54, rdSA_of k2, rdSN_of k2, rdSC_of k2, k2, hm6, VC.Now, VC.vc, VC.lib, VC.regQ, VC.loopK, VC.reg, VC.opP, VC.pv, VC.thenF, VC.blkF, VC.retF, VC.resV, VC.oneV, VC.evo, VC.bin, VC.binI, VC.cmpI, VC.arithI, VC.ldv, VC.slv, VC.pickP, VC.holds, VC.chainOf, VC.look, VC.junk, VC.put, VC.eff, VC.callee, VC.pureB, VC.rdK, VC.rdKs, VC.okKs, VC.eqKs, VC.fillL, VC.putL, VC.stW, VC.stOK, VC.mixF, VC.setAll, Nat.reduceAdd, Nat.reduceSub, Nat.reduceMul, if_true, if_false, ↓reduceIte, forall_const, implies_true, reduceCtorEq, ne_eq, Nat.reduceBNe, Nat.reduceBEq, IntKind.signed, Nat.reduceEqDiff, Nat.reduceLeDiff, Nat.reduceLT, eq_self, Int.reduceEq, Int.reduceLT, Int.reduceLE, Int.reduceAdd, Int.reduceSub, VC.regC_nil, VC.regC_cons, VC.regCK_eq, VC.callQ, VC.tailQ, VC.goCall, VC.chStep]
      refine ⟨⟨r1, r2⟩, ?_⟩
      have st9 := (((h.below_st (hsb ▸ hBw)).trans (st7.trans st8)).drop (R := [_])).trans ((((h.below_st (hsb ▸ hBw)).trans (st7.trans st8)).drop (R := [_])).hp.st_add (o := oOwn 3 1 0 (.slice none 0 0) []) (Below.refl _ _) (OwnK.nil _ _ _ _) (fun g hg => by cases hg))
      rw [hr]
      exact ⟨rfl, { a with vo := .slice A5 (s.k + 1) c5, vu := .slice A8 (s.k + 1) c8, uv := upd a.uv s.k (.slice none 0 0) }, st, upd sn s.k [], rfl, st9.perm (List.Perm.refl _) (dbegin_end (n := n) (a := a) (s := s) (st := st) (sn := sn) (o := newOp c t) (now' := upd s.now j (some s.k)) (v5 := .slice A5 (s.k + 1) c5) (v6 := .slice A8 (s.k + 1) c8) ⟨rfl, rfl⟩), drel_begin hd c t _⟩
    | false =>
      rw [hwr] at zx4
      simp -dsimp only [Fa.F54, e8, e1, e9, rdSA_of k1, rdSN_of k1, rdSC_of k1, k1, rdI_of zx0, zx0, rdI_of w1x, w1x, rdB_of zx4, zx4, rdI_of zx5, zx5, hmx, hsl, atI, undef, tu, uf, ul, ur, VC.Now, VC.vc, VC.lib, VC.regQ, VC.loopK, VC.reg, VC.opP, VC.pv, VC.thenF, VC.blkF, VC.retF, VC.resV, VC.oneV, VC.evo, VC.bin, VC.binI, VC.cmpI, VC.arithI, VC.ldv, VC.slv, VC.pickP, VC.holds, VC.chainOf, VC.look, VC.junk, VC.put, VC.eff, VC.callee, VC.pureB, VC.rdK, VC.rdKs, VC.okKs, VC.eqKs, VC.fillL, VC.putL, VC.stW, VC.stOK, VC.mixF, VC.setAll, Nat.reduceAdd, Nat.reduceSub, Nat.reduceMul, if_true, if_false, ↓reduceIte, forall_const, implies_true, reduceCtorEq, ne_eq, Nat.reduceBNe, Nat.reduceBEq, IntKind.signed, Nat.reduceEqDiff, Nat.reduceLeDiff, Nat.reduceLT, eq_self, Int.reduceEq, Int.reduceLT, Int.reduceLE, Int.reduceAdd, Int.reduceSub, VC.regC_nil, VC.regC_cons, VC.regCK_eq, VC.callQ, VC.tailQ, VC.goCall, VC.chStep]
      have hap : newOp c t = ⟨j, false, 0, t, -1, sto0, false, 0, 0⟩ := by unfold newOp; rw [hwr, hj]; rfl
      have st1 : St B (DObs n a s st sn) wx (oBox wx.heap.size (apC (newOp c t)) :: DObs n a s st sn) (wx.alloc (.cells #[.int .i64 j, .int .i64 0, .bool false, .int .i64 0, .int .i64 t, .int .i64 (-1)] 145)) := by rw [hap] at st0 ⊢; exact st0
      have hBy : Below wx.heap.size wx (wx.alloc (.cells #[.int .i64 j, .int .i64 0, .bool false, .int .i64 0, .int .i64 t, .int .i64 (-1)] 145)) := (Below.refl _ wx).alloc (Nat.le_refl _) _
      generalize wx.alloc (.cells #[.int .i64 j, .int .i64 0, .bool false, .int .i64 0, .int .i64 t, .int .i64 (-1)] 145) = wy at st1 hBy ⊢
      have hsw : sb < wx.heap.size := hsl
      generalize wx.heap.size = ob at st1 hsw ⊢
      have hy := st1.hp
      have bo : Box wy ob (apC (newOp c t)) := hy.get 0 rfl
      rw [hap] at bo
      have o0 := bo.at (i := 0) rfl
      have o1 := bo.at (i := 1) rfl
      have o2 := bo.at (i := 2) rfl
      have o3 := bo.at (i := 3) rfl
      have o4 := bo.at (i := 4) rfl
      have o5 := bo.at (i := 5) rfl
      have hol := bo.1
      have bm : Box wy a.mb (shelfC n a) := hy.get 1 rfl
      have k1 := bm.at (i := 1) rfl
      have hml := bm.1
      rw [eo] at k1
      refine WP_held 10 (fun l => a.vo.ownBlock = some l) (.take 0 (.take 1 (.take 2 (.take 3 (.take 4 (.take 5 (.one 6 (.one 7 (.one 8 (.take 9 (.one 10 .done))))))))))) Fa.mix (by kernel_rfl) rfl ?_
      simp -dsimp only [VC.heldF_done, VC.heldF_last, VC.planF_done, VC.planF_take, VC.planF_one, VC.planF_two, VC.planK_eq, VC.heldF_take, VC.heldF_one, VC.heldF_two, VC.heldF_twoL, VC.heldK_eq, VC.okRd, Fa.F54, rdSA_of k1, rdSN_of k1, rdSC_of k1, k1, rdI_of o0, o0, rdI_of o1, o1, rdB_of o2, o2, rdI_of o3, o3, rdI_of o4, o4, rdI_of o5, o5, hol, hml, VC.Now, VC.vc, VC.lib, VC.regQ, VC.loopK, VC.reg, VC.opP, VC.pv, VC.thenF, VC.blkF, VC.retF, VC.resV, VC.oneV, VC.evo, VC.bin, VC.binI, VC.cmpI, VC.arithI, VC.ldv, VC.slv, VC.pickP, VC.holds, VC.chainOf, VC.look, VC.junk, VC.put, VC.eff, VC.callee, VC.pureB, VC.rdK, VC.rdKs, VC.okKs, VC.eqKs, VC.fillL, VC.putL, VC.stW, VC.stOK, VC.mixF, VC.setAll, Nat.reduceAdd, Nat.reduceSub, Nat.reduceMul, if_true, if_false, ↓reduceIte, forall_const, implies_true, reduceCtorEq, ne_eq, Nat.reduceBNe, Nat.reduceBEq, IntKind.signed, Nat.reduceEqDiff, Nat.reduceLeDiff, Nat.reduceLT, eq_self, Int.reduceEq, Int.reduceLT, Int.reduceLE, Int.reduceAdd, Int.reduceSub, VC.regC_nil, VC.regC_cons, VC.regCK_eq, VC.callQ, VC.tailQ, VC.goCall, VC.chStep]
      have nmb : ¬ a.vo.ownBlock = some a.mb := fun hf => hy.ne 1 3 (by decide) rfl rfl a.mb rfl hf
      have nob : ¬ a.vo.ownBlock = some ob := fun hf => hy.ne 0 3 (by decide) rfl rfl ob rfl hf
      have hHd := hy.drewN 1
      have ag0 : Agree (fun l => a.vo.ownBlock = some l) wy (wy.drewN 1) := Agree.of_below (below_drewN (Below.refl _ wy) 1)
      refine ⟨nmb, nob, ag0.trans (Agree.of_below ((Below.refl _ _).alloc (Nat.le_refl _) _)), ?_⟩
      refine OPW_appK (v := a.vo) rfl Fa.apI55 (by rw [eo]; rfl) rfl rfl (by simp [Value.oneCell']) (hHd.get 3 rfl) (Nat.zero_le _) (by omega) (by decide) fun v5 w5 ho5 hg5 hst5 => ?_
      obtain ⟨A5, c5, e5, _⟩ := id ho5
      have hap2 : apC (newOp c t) = [.int .i64 j, .int .i64 0, .bool false, .int .i64 0, .int .i64 t, .int .i64 (-1)] := by rw [hap]
      rw [← hap2] at ho5
      obtain ⟨⟨r1, r2⟩, st6⟩ := hHd.growField 1 3 rfl rfl (by decide) ho5 hg5 hst5 1 (by show 1 < 3; omega)
      have ag5 := ag0.trans (Agree.grown hg5 fun l hl => hl)
      subst e5
      have st7 := (st1.drewN 1).trans st6
      obtain ⟨Au, cu, eu, _⟩ := id (st7.hp.get 4 rfl : OwnK _ 0 189 6 s.k a.vu _)
      have bm6 : Box (w5.setCell ⟨a.mb, 1, none⟩ (.slice A5 (s.k + 1) c5)) a.mb ((shelfC n a).set 1 (.slice A5 (s.k + 1) c5)) := st7.hp.get 1 rfl
      have k2 := bm6.at (i := 2) rfl
      have hm6 := bm6.1
      rw [eu] at k2
      simp -dsimp only [VC.heldF_done, VC.heldF_last, VC.planF_done, VC.planF_take, VC.planF_one, VC.planF_two, VC.planK_eq, VC.heldF_take, VC.heldF_one, VC.heldF_two, VC.heldF_twoL, VC.heldK_eq, VC.okRd, Fa.F54, rdSA_of k1, rdSN_of k1, rdSC_of k1, k1, rdSA_of k2, rdSN_of k2, rdSC_of k2, k2, hml, hol, hm6, VC.Now, VC.vc, VC.lib, VC.regQ, VC.loopK, VC.reg, VC.opP, VC.pv, VC.thenF, VC.blkF, VC.retF, VC.resV, VC.oneV, VC.evo, VC.bin, VC.binI, VC.cmpI, VC.arithI, VC.ldv, VC.slv, VC.pickP, VC.holds, VC.chainOf, VC.look, VC.junk, VC.put, VC.eff, VC.callee, VC.pureB, VC.rdK, VC.rdKs, VC.okKs, VC.eqKs, VC.fillL, VC.putL, VC.stW, VC.stOK, VC.mixF, VC.setAll, Nat.reduceAdd, Nat.reduceSub, Nat.reduceMul, if_true, if_false, ↓reduceIte, forall_const, implies_true, reduceCtorEq, ne_eq, Nat.reduceBNe, Nat.reduceBEq, IntKind.signed, Nat.reduceEqDiff, Nat.reduceLeDiff, Nat.reduceLT, eq_self, Int.reduceEq, Int.reduceLT, Int.reduceLE, Int.reduceAdd, Int.reduceSub, VC.regC_nil, VC.regC_cons, VC.regCK_eq, VC.callQ, VC.tailQ, VC.goCall, VC.chStep]
      refine ⟨ag5, ag5, ⟨r1, r2⟩, ?_⟩
      clear st6 r1 r2 hst5 hg5 ho5 ag5 ag0 hHd
      generalize w5.setCell ⟨a.mb, 1, none⟩ (.slice A5 (s.k + 1) c5) = w6 at st7 k2 hm6 bm6 ⊢
      have hH7 := st7.hp
      refine OPW_appK (v := a.vu) rfl Fa.apI153 (by rw [eu]; rfl) rfl rfl (by simp [Value.oneCell']) (hH7.get 4 rfl) (Nat.zero_le _) (by omega) (by decide) fun v8 w8 ho8 hg8 hst8 => ?_
      obtain ⟨A8, c8, e8', _⟩ := id ho8
      obtain ⟨⟨r1, r2⟩, st8⟩ := hH7.growField 1 4 rfl rfl (by decide) ho8 hg8 hst8 2 (by show 2 < 3; omega)
      subst e8'
      rw [VC.Now, VC.seqK_eq]
      simp -dsimp only [Fa.F54, rdSA_of k2, rdSN_of k2, rdSC_of k2, k2, hm6, VC.Now, VC.vc, VC.lib, VC.regQ, VC.loopK, VC.reg, VC.opP, VC.pv, VC.thenF, VC.blkF, VC.retF, VC.resV, VC.oneV, VC.evo, VC.bin, VC.binI, VC.cmpI, VC.arithI, VC.ldv, VC.slv, VC.pickP, VC.holds, VC.chainOf, VC.look, VC.junk, VC.put, VC.eff, VC.callee, VC.pureB, VC.rdK, VC.rdKs, VC.okKs, VC.eqKs, VC.fillL, VC.putL, VC.stW, VC.stOK, VC.mixF, VC.setAll, Nat.reduceAdd, Nat.reduceSub, Nat.reduceMul, if_true, if_false, ↓reduceIte, forall_const, implies_true, reduceCtorEq, ne_eq, Nat.reduceBNe, Nat.reduceBEq, IntKind.signed, Nat.reduceEqDiff, Nat.reduceLeDiff, Nat.reduceLT, eq_self, Int.reduceEq, Int.reduceLT, Int.reduceLE, Int.reduceAdd, Int.reduceSub, VC.regC_nil, VC.regC_cons, VC.regCK_eq, VC.callQ, VC.tailQ, VC.goCall, VC.chStep]
      refine ⟨⟨r1, r2⟩, ?_⟩
      have st9 := (((h.below_st (hsb ▸ hBw)).trans (st7.trans st8)).drop (R := [_])).trans ((((h.below_st (hsb ▸ hBw)).trans (st7.trans st8)).drop (R := [_])).hp.st_add (o := oOwn 3 1 0 (.slice none 0 0) []) (Below.refl _ _) (OwnK.nil _ _ _ _) (fun g hg => by cases hg))
      rw [hr]
      exact ⟨rfl, { a with vo := .slice A5 (s.k + 1) c5, vu := .slice A8 (s.k + 1) c8, uv := upd a.uv s.k (.slice none 0 0) }, st, upd sn s.k [], rfl, st9.perm (List.Perm.refl _) (dbegin_end (n := n) (a := a) (s := s) (st := st) (sn := sn) (o := newOp c t) (now' := upd s.now j (some s.k)) (v5 := .slice A5 (s.k + 1) c5) (v6 := .slice A8 (s.k + 1) c8) ⟨rfl, rfl⟩), drel_begin hd c t _⟩
end
end Go.Proofs.Ytnggjekppdlaoaa
