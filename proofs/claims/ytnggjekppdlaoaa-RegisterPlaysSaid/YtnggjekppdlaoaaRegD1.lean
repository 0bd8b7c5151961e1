/- Many copies as one, the document's: a stamp is later; what a copy has. -/
import Derived.Test.YtnggjekppdlaoaaRegRel
import Derived.Test.YtnggjekppdlaoaaReg1
namespace Go.Proofs.Ytnggjekppdlaoaa
open Go Go.RowKit Go.VC
set_option linter.unusedSimpArgs false
set_option linter.unusedVariables false

/-- A slice of stamped values. -/
def RdSt (w : World) (A : Option Addr) (l : List Sto) : Prop :=
  0 < l.length → ∃ b o, A = some ⟨b, o, none⟩ ∧ b < w.heap.size ∧ ∀ i, (hi : i < l.length) → w.cell? ⟨b, o + i * 3, none⟩ = some (.int .i64 l[i].n) ∧ w.cell? ⟨b, o + i * 3 + 1, none⟩ = some (.int .i64 l[i].who) ∧ w.cell? ⟨b, o + i * 3 + 2, none⟩ = some (.int .i64 l[i].val)
theorem RdSt.below {w w' : World} {A : Option Addr} {l : List Sto} (h : RdSt w A l) (hb : Below w.heap.size w w') : RdSt w' A l := by
  intro h0
  obtain ⟨b, o, rfl, hlt, hc⟩ := h h0
  refine ⟨b, o, rfl, Nat.lt_of_lt_of_le hlt hb.size, fun i hi => ?_⟩
  obtain ⟨h1, h2, h3⟩ := hc i hi
  exact ⟨(hb.cell (p := ⟨b, _, none⟩) hlt).trans h1, (hb.cell (p := ⟨b, _, none⟩) hlt).trans h2, (hb.cell (p := ⟨b, _, none⟩) hlt).trans h3⟩
theorem flat_at {l : List Sto} {i j : Nat} (hi : i < l.length) (hj : j < 3) : (l.flatMap stL)[i * 3 + j]? = (stL l[i])[j]? := by
  induction l generalizing i with
  | nil => exact absurd hi (Nat.not_lt_zero i)
  | cons x l ih =>
    rw [List.flatMap_cons]
    cases i with
    | zero => rw [List.getElem?_append_left (by show 0 * 3 + j < 3; omega)]; simp
    | succ i =>
      rw [List.getElem?_append_right (by show 3 ≤ (i + 1) * 3 + j; omega), show (i + 1) * 3 + j - (stL x).length = i * 3 + j by show (i + 1) * 3 + j - 3 = _; omega, ih (by simpa using hi)]
      rfl
theorem RdSt.own {w : World} {B : Nat} {e : TypeId} {A : Option Addr} {c : Nat} {l : List Sto} (h : OwnK w B e 3 l.length (.slice A l.length c) (l.flatMap stL)) : RdSt w A l := by
  intro h0
  obtain ⟨g, c', e, _, hlt⟩ := h.form h0
  cases e
  refine ⟨g, 0, rfl, hlt, fun i hi => ?_⟩
  have k0 := (h.at (j := i * 3 + 0) (by omega)).1
  have k1 := (h.at (j := i * 3 + 1) (by omega)).1
  have k2 := (h.at (j := i * 3 + 2) (by omega)).1
  rw [flat_at hi (by omega)] at k0 k1 k2
  rw [Nat.zero_add]
  exact ⟨k0, k1, k2⟩

set_option maxRecDepth 8000 in
set_option maxHeartbeats 1000000 in
theorem later2_any (a b : Sto) (w : World) : Calls Try.prog 83 #[stV a, stV b] w fun e w' => e = .returned (.bool (later a b)) ∧ Below w.heap.size w w' := by
  have x0 := Box.new w (stL a) 187
  have hB0 : Below w.heap.size w (w.alloc (.cells (stL a).toArray 187)) := (Below.refl _ _).alloc (Nat.le_refl _) _
  have hz : (w.alloc (.cells (stL a).toArray 187)).heap.size = w.heap.size + 1 := by simp
  refine calls_vc (rs := [.tmp 4]) Fa.mix Try.func83 rfl Try.ntmps83 rfl (by kernel_rfl) (Nat.le_of_ble_eq_true rfl) ?_
  (repeat rw [vc_seq]); refine vc_plain _ fun Q hQ => ?_; simp -dsimp only [Fa.F83, VC.Now, VC.vc_skip, VC.vc_ret, VC.vc_exit, VC.vc_block, VC.vc_cond, VC.vc_region, VC.lib, VC.regQ, VC.loopK, VC.reg, VC.opP, VC.pv, VC.thenF, VC.blkF, VC.retF, VC.resV, VC.oneV, VC.evo, VC.bin, VC.binI, VC.cmpI, VC.arithI, VC.ldv, VC.slv, VC.pickP, VC.holds, VC.chainOf, VC.look, VC.junk, VC.put, VC.eff, VC.callee, VC.pureB, VC.rdK, VC.rdKs, VC.okKs, VC.eqKs, VC.fillL, VC.putL, VC.stW, VC.stOK, VC.mixF, VC.setAll, Nat.reduceAdd, Nat.reduceSub, Nat.reduceMul, if_true, if_false, ↓reduceIte, forall_const, implies_true, reduceCtorEq, ne_eq, Nat.reduceBNe, Nat.reduceBEq, IntKind.signed, Nat.reduceEqDiff, Nat.reduceLeDiff, Nat.reduceLT, eq_self, Int.reduceEq, Int.reduceLT, Int.reduceLE, Int.reduceAdd, Int.reduceSub, VC.regC_nil, VC.regC_cons, VC.regCK_eq, VC.callQ, VC.tailQ, VC.goCall, VC.chStep]
  change Q _ _ ((w.alloc (.cells (stL a).toArray 187)).alloc (.cells (stL b).toArray 187))
  generalize w.alloc (.cells (stL a).toArray 187) = w1 at x0 hB0 hz ⊢
  have y0 := Box.new w1 (stL b) 187
  have hB1 : Below w1.heap.size w1 (w1.alloc (.cells (stL b).toArray 187)) := (Below.refl _ _).alloc (Nat.le_refl _) _
  replace x0 := x0.below hB1
  have hB := hB0.trans (hB1.mono hB0.size)
  rw [hz] at y0
  generalize w1.alloc (.cells (stL b).toArray 187) = wb at x0 y0 hB ⊢
  clear hB0 hB1 hz
  have a1 := x0.at (i := 0) rfl
  have a2 := x0.at (i := 1) rfl
  have b1 := y0.at (i := 0) rfl
  have b2 := y0.at (i := 1) rfl
  subst hQ
  simp -dsimp only [Fa.F83, rdI_of a1, a1, rdI_of a2, a2, rdI_of b1, b1, rdI_of b2, b2, undef, tu, uf, ul, ur, VC.Now, VC.vc, VC.lib, VC.regQ, VC.loopK, VC.reg, VC.opP, VC.pv, VC.thenF, VC.blkF, VC.retF, VC.resV, VC.oneV, VC.evo, VC.bin, VC.binI, VC.cmpI, VC.arithI, VC.ldv, VC.slv, VC.pickP, VC.holds, VC.chainOf, VC.look, VC.junk, VC.put, VC.eff, VC.callee, VC.pureB, VC.rdK, VC.rdKs, VC.okKs, VC.eqKs, VC.fillL, VC.putL, VC.stW, VC.stOK, VC.mixF, VC.setAll, Nat.reduceAdd, Nat.reduceSub, Nat.reduceMul, if_true, if_false, ↓reduceIte, forall_const, implies_true, reduceCtorEq, ne_eq, Nat.reduceBNe, Nat.reduceBEq, IntKind.signed, Nat.reduceEqDiff, Nat.reduceLeDiff, Nat.reduceLT, eq_self, Int.reduceEq, Int.reduceLT, Int.reduceLE, Int.reduceAdd, Int.reduceSub, VC.regC_nil, VC.regC_cons, VC.regCK_eq, VC.callQ, VC.tailQ, VC.goCall, VC.chStep]
  exact ⟨rfl, hB⟩

section
variable {w : World} {mb gs n x c : Nat} {A : Option Addr} {l : List Sto}
theorem topL_take {k : Nat} (hk : k < l.length) : topL (l.take (k + 1)) = if later l[k] (topL (l.take k)) = true then l[k] else topL (l.take k) := by
  rw [List.take_succ_eq_append_getElem hk, topL_snoc]

set_option maxRecDepth 8000 in
set_option maxHeartbeats 4000000 in
theorem top_any (hm : w.cell? ⟨mb, 0, none⟩ = some (.slice (some ⟨gs, 0, none⟩) n n)) (hml : mb < w.heap.size) (hgl : gs < w.heap.size) (hx : x < n) (hs : w.cell? ⟨gs, x, none⟩ = some (.slice A l.length c)) (hr : RdSt w A l) (hl : l.length ≤ 1000) :
    Calls Try.prog 84 #[.pointer (some ⟨mb, 0, none⟩), .int .i64 x] w fun e w' => e = .returned (stV (topL l)) ∧ Below w.heap.size w w' := by
  refine calls_vc (rs := [.cell 4 187]) Fa.mix Try.func84 rfl Try.ntmps84 rfl (by kernel_rfl) (Nat.le_of_ble_eq_true rfl) ?_
  (repeat rw [vc_seq]); refine vc_plain _ fun Q hQ => ?_; simp -dsimp only [Fa.F84, VC.Now, VC.vc_skip, VC.vc_ret, VC.vc_exit, VC.vc_block, VC.vc_cond, VC.vc_region, VC.lib, VC.regQ, VC.loopK, VC.reg, VC.opP, VC.pv, VC.thenF, VC.blkF, VC.retF, VC.resV, VC.oneV, VC.evo, VC.bin, VC.binI, VC.cmpI, VC.arithI, VC.ldv, VC.slv, VC.pickP, VC.holds, VC.chainOf, VC.look, VC.junk, VC.put, VC.eff, VC.callee, VC.pureB, VC.rdK, VC.rdKs, VC.okKs, VC.eqKs, VC.fillL, VC.putL, VC.stW, VC.stOK, VC.mixF, VC.setAll, Nat.reduceAdd, Nat.reduceSub, Nat.reduceMul, if_true, if_false, ↓reduceIte, forall_const, implies_true, reduceCtorEq, ne_eq, Nat.reduceBNe, Nat.reduceBEq, IntKind.signed, Nat.reduceEqDiff, Nat.reduceLeDiff, Nat.reduceLT, eq_self, Int.reduceEq, Int.reduceLT, Int.reduceLE, Int.reduceAdd, Int.reduceSub, VC.regC_nil, VC.regC_cons, VC.regCK_eq, VC.callQ, VC.tailQ, VC.goCall, VC.chStep]
  have st0 := (Hp.nil (B := w.heap.size) (Nat.le_refl _)).st_add (o := oBox w.heap.size (stL sto0)) ((Below.refl _ w).alloc (Nat.le_refl _) (.cells (stL sto0).toArray 187)) (Box.new w _ _) (fun g hg => by cases hg; exact Nat.le_refl _)
  have hz0 : (w.alloc (.cells (stL sto0).toArray 187)).heap.size = w.heap.size + 1 := by simp
  have hB0 : Below w.heap.size w (w.alloc (.cells (stL sto0).toArray 187)) := (Below.refl _ w).alloc (Nat.le_refl _) _
  change Q _ _ (w.alloc (.cells (stL sto0).toArray 187))
  generalize w.alloc (.cells (stL sto0).toArray 187) = w1 at st0 hz0 hB0 ⊢
  subst hQ; simp -dsimp only [VC.Now, VC.vc_skip, VC.vc_ret, VC.vc_exit, VC.vc_block, VC.vc_cond, VC.vc_region, VC.lib, VC.regQ, VC.loopK, VC.reg, VC.opP, VC.pv, VC.thenF, VC.blkF, VC.retF, VC.resV, VC.oneV, VC.evo, VC.bin, VC.binI, VC.cmpI, VC.arithI, VC.ldv, VC.slv, VC.pickP, VC.holds, VC.chainOf, VC.look, VC.junk, VC.put, VC.eff, VC.callee, VC.pureB, VC.rdK, VC.rdKs, VC.okKs, VC.eqKs, VC.fillL, VC.putL, VC.stW, VC.stOK, VC.mixF, VC.setAll, Nat.reduceAdd, Nat.reduceSub, Nat.reduceMul, if_true, if_false, ↓reduceIte, forall_const, implies_true, reduceCtorEq, ne_eq, Nat.reduceBNe, Nat.reduceBEq, IntKind.signed, Nat.reduceEqDiff, Nat.reduceLeDiff, Nat.reduceLT, eq_self, Int.reduceEq, Int.reduceLT, Int.reduceLE, Int.reduceAdd, Int.reduceSub, VC.regC_nil, VC.regC_cons, VC.regCK_eq, VC.callQ, VC.tailQ, VC.goCall, VC.chStep]; (repeat rw [vc_seq]); refine vc_plain _ fun Q hQ => ?_; simp -dsimp only [Fa.F84, VC.Now, VC.vc_skip, VC.vc_ret, VC.vc_exit, VC.vc_block, VC.vc_cond, VC.vc_region, VC.lib, VC.regQ, VC.loopK, VC.reg, VC.opP, VC.pv, VC.thenF, VC.blkF, VC.retF, VC.resV, VC.oneV, VC.evo, VC.bin, VC.binI, VC.cmpI, VC.arithI, VC.ldv, VC.slv, VC.pickP, VC.holds, VC.chainOf, VC.look, VC.junk, VC.put, VC.eff, VC.callee, VC.pureB, VC.rdK, VC.rdKs, VC.okKs, VC.eqKs, VC.fillL, VC.putL, VC.stW, VC.stOK, VC.mixF, VC.setAll, Nat.reduceAdd, Nat.reduceSub, Nat.reduceMul, if_true, if_false, ↓reduceIte, forall_const, implies_true, reduceCtorEq, ne_eq, Nat.reduceBNe, Nat.reduceBEq, IntKind.signed, Nat.reduceEqDiff, Nat.reduceLeDiff, Nat.reduceLT, eq_self, Int.reduceEq, Int.reduceLT, Int.reduceLE, Int.reduceAdd, Int.reduceSub, VC.regC_nil, VC.regC_cons, VC.regCK_eq, VC.callQ, VC.tailQ, VC.goCall, VC.chStep]
  have st1 := st0.hp.st_add (o := oBox w1.heap.size (stL sto0)) ((Below.refl _ w1).alloc (Nat.le_refl _) (.cells (stL sto0).toArray 187)) (Box.new w1 _ _) (fun g hg => by cases hg; exact Nat.le_refl _)
  have hB1 : Below w.heap.size w (w1.alloc (.cells (stL sto0).toArray 187)) := hB0.trans (((Below.refl _ w1).alloc (Nat.le_refl _) _).mono (by omega))
  replace st1 := st0.trans st1
  change Q _ _ (w1.alloc (.cells (stL sto0).toArray 187))
  generalize w1.alloc (.cells (stL sto0).toArray 187) = w2 at st1 hB1 ⊢
  rw [hz0] at st1 ⊢
  have hH := st1.hp
  clear st1 st0 hB0 hz0
  have m0 := hB1.cell (p := ⟨mb, 0, none⟩) hml |>.trans hm
  have s0 := hB1.cell (p := ⟨gs, x, none⟩) hgl |>.trans hs
  have hr2 := hr.below hB1
  have hml2 := Nat.lt_of_lt_of_le hml hB1.size
  have hgl2 := Nat.lt_of_lt_of_le hgl hB1.size
  generalize hrb : w.heap.size = rb at hH hB1 ⊢
  subst hQ
  simp -dsimp only [Fa.F84, rdSA_of m0, rdSN_of m0, rdSC_of m0, m0, rdSA_of s0, rdSN_of s0, rdSC_of s0, s0, hml2, hgl2, Int.toNat_natCast, Nat.zero_add, VC.Now, VC.vc, VC.lib, VC.regQ, VC.loopK, VC.reg, VC.opP, VC.pv, VC.thenF, VC.blkF, VC.retF, VC.resV, VC.oneV, VC.evo, VC.bin, VC.binI, VC.cmpI, VC.arithI, VC.ldv, VC.slv, VC.pickP, VC.holds, VC.chainOf, VC.look, VC.junk, VC.put, VC.eff, VC.callee, VC.pureB, VC.rdK, VC.rdKs, VC.okKs, VC.eqKs, VC.fillL, VC.putL, VC.stW, VC.stOK, VC.mixF, VC.setAll, Nat.reduceAdd, Nat.reduceSub, Nat.reduceMul, if_true, if_false, ↓reduceIte, forall_const, implies_true, reduceCtorEq, ne_eq, Nat.reduceBNe, Nat.reduceBEq, IntKind.signed, Nat.reduceEqDiff, Nat.reduceLeDiff, Nat.reduceLT, eq_self, Int.reduceEq, Int.reduceLT, Int.reduceLE, Int.reduceAdd, Int.reduceSub, VC.regC_nil, VC.regC_cons, VC.regCK_eq, VC.callQ, VC.tailQ, VC.goCall, VC.chStep]
  refine ⟨⟨by omega, by omega⟩, ?_⟩
  refine loop_slots Fa.mix [17] [7, 18, 19, 20, 21, 22, 23, 24, 25] (fun m vs wx => ∃ k : Nat, k + m = l.length ∧ vs = [.int .i64 k] ∧ Below rb w wx ∧ Hp rb [oBox (rb + 1) (stL (topL (l.take k))), oBox rb (stL sto0)] wx) l.length (by kernel_rfl) rfl
    ⟨0, by omega, rfl, hB1, hH⟩ ?_
  clear hH hB1 m0 s0 hr2 hml2 hgl2
  rintro m vs u wx ⟨k, hkm, rfl, hBx, hH⟩
  have bt : Box wx (rb + 1) (stL (topL (l.take k))) := hH.get 0 rfl
  have t0 := bt.at (i := 0) rfl
  have t1 := bt.at (i := 1) rfl
  have t2 := bt.at (i := 2) rfl
  by_cases hk : k < l.length
  · obtain ⟨b, o, rfl, hb, hc⟩ := (hr.below (by rw [hrb]; exact hBx)) (by omega)
    obtain ⟨c0, c1, c2⟩ := hc k hk
    have e7 : ((k : Int) < l.length) = True := eq_true (by omega)
    have htk := topL_take hk
    generalize l[k] = y at *
    generalize topL (l.take k) = z at *
    have hBs : Below wx.heap.size wx (wx.alloc (.cells #[.int .i64 y.n, .int .i64 y.who, .int .i64 y.val] 187)) := (Below.refl _ _).alloc (Nat.le_refl _) _
    have by0 : Box (wx.alloc (.cells #[.int .i64 y.n, .int .i64 y.who, .int .i64 y.val] 187)) wx.heap.size (stL y) := Box.new wx _ _
    have bt2 := bt.below hBs
    replace t0 := bt2.at (i := 0) rfl
    replace t1 := bt2.at (i := 1) rfl
    replace t2 := bt2.at (i := 2) rfl
    simp -dsimp only [Fa.F84, e7, rdI_of c0, c0, rdI_of c1, c1, rdI_of c2, c2, rdI_of t0, t0, rdI_of t1, t1, rdI_of t2, t2, Int.toNat_natCast, VC.Now, VC.vc, VC.lib, VC.regQ, VC.loopK, VC.reg, VC.opP, VC.pv, VC.thenF, VC.blkF, VC.retF, VC.resV, VC.oneV, VC.evo, VC.bin, VC.binI, VC.cmpI, VC.arithI, VC.ldv, VC.slv, VC.pickP, VC.holds, VC.chainOf, VC.look, VC.junk, VC.put, VC.eff, VC.callee, VC.pureB, VC.rdK, VC.rdKs, VC.okKs, VC.eqKs, VC.fillL, VC.putL, VC.stW, VC.stOK, VC.mixF, VC.setAll, Nat.reduceAdd, Nat.reduceSub, Nat.reduceMul, if_true, if_false, ↓reduceIte, forall_const, implies_true, reduceCtorEq, ne_eq, Nat.reduceBNe, Nat.reduceBEq, IntKind.signed, Nat.reduceEqDiff, Nat.reduceLeDiff, Nat.reduceLT, eq_self, Int.reduceEq, Int.reduceLT, Int.reduceLE, Int.reduceAdd, Int.reduceSub, VC.regC_nil, VC.regC_cons, VC.regCK_eq, VC.callQ, VC.tailQ, VC.goCall, VC.chStep]
    have hHy := hH.below hBs
    have hBy : Below rb w (wx.alloc (.cells #[.int .i64 y.n, .int .i64 y.who, .int .i64 y.val] 187)) := hBx.trans (hBs.mono hH.base)
    refine ⟨by omega, CALL_by (later2_any y z _) fun e w3 hp => ⟨_, hp.1, ?_⟩⟩
    obtain ⟨_, hw3⟩ := hp
    replace hHy := hHy.below hw3
    replace hBy := hBy.trans (hw3.mono (hH.below hBs).base)
    replace by0 := by0.below hw3
    generalize hyb : wx.heap.size = yb at by0 ⊢
    clear c0 c1 c2 t0 t1 t2 bt bt2 hBs hw3 hb hc hr
    rw [VC.Now, VC.seqK_eq]
    have y0 := by0.at (i := 0) rfl
    have y1 := by0.at (i := 1) rfl
    have y2 := by0.at (i := 2) rfl
    by_cases q : later y z = true
    · obtain ⟨ok, st3⟩ := hHy.allBox 0 rfl (vs := stL y) rfl (by intro v hv; simp at hv; rcases hv with rfl | rfl | rfl <;> rfl)
      rw [if_pos q] at htk
      simp -dsimp only [Fa.F84, q, rdI_of y0, y0, rdI_of y1, y1, rdI_of y2, y2, VC.Now, VC.vc, VC.lib, VC.regQ, VC.loopK, VC.reg, VC.opP, VC.pv, VC.thenF, VC.blkF, VC.retF, VC.resV, VC.oneV, VC.evo, VC.bin, VC.binI, VC.cmpI, VC.arithI, VC.ldv, VC.slv, VC.pickP, VC.holds, VC.chainOf, VC.look, VC.junk, VC.put, VC.eff, VC.callee, VC.pureB, VC.rdK, VC.rdKs, VC.okKs, VC.eqKs, VC.fillL, VC.putL, VC.mixF, VC.setAll, Nat.reduceAdd, Nat.reduceSub, Nat.reduceMul, if_true, if_false, ↓reduceIte, forall_const, implies_true, reduceCtorEq, ne_eq, Nat.reduceBNe, Nat.reduceBEq, IntKind.signed, Nat.reduceEqDiff, Nat.reduceLeDiff, Nat.reduceLT, eq_self, Int.reduceEq, Int.reduceLT, Int.reduceLE, Int.reduceAdd, Int.reduceSub, VC.regC_nil, VC.regC_cons, VC.regCK_eq, VC.callQ, VC.tailQ, VC.goCall, VC.chStep]
      refine ⟨ok, fits_i64 (by omega) (by omega), SAME.intro (by kernel_rfl), m - 1, by omega, k + 1, by omega, rfl, ?_, ?_⟩
      · exact hBy.trans (st3.below hHy)
      · rw [htk]; exact st3.hp
    · rw [if_neg q] at htk
      simp -dsimp only [Fa.F84, q, VC.Now, VC.vc, VC.lib, VC.regQ, VC.loopK, VC.reg, VC.opP, VC.pv, VC.thenF, VC.blkF, VC.retF, VC.resV, VC.oneV, VC.evo, VC.bin, VC.binI, VC.cmpI, VC.arithI, VC.ldv, VC.slv, VC.pickP, VC.holds, VC.chainOf, VC.look, VC.junk, VC.put, VC.eff, VC.callee, VC.pureB, VC.rdK, VC.rdKs, VC.okKs, VC.eqKs, VC.fillL, VC.putL, VC.stW, VC.stOK, VC.mixF, VC.setAll, Nat.reduceAdd, Nat.reduceSub, Nat.reduceMul, if_true, if_false, ↓reduceIte, forall_const, implies_true, reduceCtorEq, ne_eq, Nat.reduceBNe, Nat.reduceBEq, IntKind.signed, Nat.reduceEqDiff, Nat.reduceLeDiff, Nat.reduceLT, eq_self, Int.reduceEq, Int.reduceLT, Int.reduceLE, Int.reduceAdd, Int.reduceSub, VC.regC_nil, VC.regC_cons, VC.regCK_eq, VC.callQ, VC.tailQ, VC.goCall, VC.chStep]
      refine ⟨fits_i64 (by omega) (by omega), SAME.intro (by kernel_rfl), m - 1, by omega, k + 1, by omega, rfl, hBy, ?_⟩
      rw [htk]; exact hHy
  · obtain rfl : k = l.length := by omega
    have e7 : ((l.length : Int) < l.length) = False := eq_false (by omega)
    rw [List.take_length] at *
    obtain ⟨ok, st3⟩ := hH.allBox 1 rfl (vs := stL (topL l)) rfl (by intro v hv; simp at hv; rcases hv with rfl | rfl | rfl <;> rfl)
    have br : Box _ rb (stL (topL l)) := st3.hp.get 1 rfl
    have r0 := br.at (i := 0) rfl
    have r1 := br.at (i := 1) rfl
    have r2 := br.at (i := 2) rfl
    simp -dsimp only [Fa.F84, e7, rdI_of t0, t0, rdI_of t1, t1, rdI_of t2, t2, rdI_of r0, r0, rdI_of r1, r1, rdI_of r2, r2, VC.Now, VC.vc, VC.lib, VC.regQ, VC.loopK, VC.reg, VC.opP, VC.pv, VC.thenF, VC.blkF, VC.retF, VC.resV, VC.oneV, VC.evo, VC.bin, VC.binI, VC.cmpI, VC.arithI, VC.ldv, VC.slv, VC.pickP, VC.holds, VC.chainOf, VC.look, VC.junk, VC.put, VC.eff, VC.callee, VC.pureB, VC.rdK, VC.rdKs, VC.okKs, VC.eqKs, VC.fillL, VC.putL, VC.mixF, VC.setAll, Nat.reduceAdd, Nat.reduceSub, Nat.reduceMul, if_true, if_false, ↓reduceIte, forall_const, implies_true, reduceCtorEq, ne_eq, Nat.reduceBNe, Nat.reduceBEq, IntKind.signed, Nat.reduceEqDiff, Nat.reduceLeDiff, Nat.reduceLT, eq_self, Int.reduceEq, Int.reduceLT, Int.reduceLE, Int.reduceAdd, Int.reduceSub, VC.regC_nil, VC.regC_cons, VC.regCK_eq, VC.callQ, VC.tailQ, VC.goCall, VC.chStep]
    exact ⟨ok, by rw [hrb]; exact hBx.trans (st3.below hH)⟩
end
end Go.Proofs.Ytnggjekppdlaoaa
