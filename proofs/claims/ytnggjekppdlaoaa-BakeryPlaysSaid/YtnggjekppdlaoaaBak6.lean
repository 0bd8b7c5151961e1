/- The document's tickets: its run. -/
import Derived.Test.YtnggjekppdlaoaaBak5
namespace Go.VC
open Go Go.RowKit
theorem OwnK.box {w : World} {B : Nat} {e : TypeId} {size n g m c : Nat} {xs : List Value} (h : OwnK w B e size n (.slice (some ⟨g, 0, none⟩) m c) xs) : Box w g xs := by
  have hl := h.length
  exact ⟨(h.lt rfl).2, fun i hi => h.at (by omega)⟩
theorem Fam.stAll {w : World} {B : Nat} {F : Nat → Option FE} (h : Fam w B F) {q : Nat} {e : TypeId} {size n g m c : Nat} {xs vs : List Value} (hq : F q = some ⟨e, size, n, .slice (some ⟨g, 0, none⟩) m c, xs⟩) (hl : vs.length = xs.length) :
    Fam (stW w ⟨g, 0, none⟩ 0 vs) B (upd F q (some ⟨e, size, n, .slice (some ⟨g, 0, none⟩) m c, vs⟩)) := by
  have hag : Agree (fun j => j = g) w (stW w ⟨g, 0, none⟩ 0 vs) := stW_agree (X := fun j => j = g) rfl _ _ _
  refine ⟨fun k x hk => ?_, fun k l x y hkl hk hl => ?_⟩
  · unfold upd at hk
    split at hk
    · cases hk
      have h0 : OwnK w B e size n (.slice (some ⟨g, 0, none⟩) m c) xs := h.1 q _ hq
      exact OwnK.stAll h0 hl
    · rename_i hne
      exact (h.1 k x hk).keep fun g' hg' => hag.block g' ((h.1 k x hk).lt hg').2 fun e => h.2 k q _ _ hne hk hq g' hg' (by rw [e]; rfl)
  · unfold upd at hk hl
    split at hk
    · rename_i h1
      rw [if_neg (fun e => hkl (h1.trans e.symm))] at hl
      cases hk
      have := h.2 q l _ _ (fun e => hkl (h1.trans e)) hq hl
      exact this
    · rename_i h1
      split at hl
      · cases hl
        have := h.2 k q _ _ h1 hk hq
        exact this
      · exact h.2 k l x y hkl hk hl
theorem OpIs.mkL {ops : Array Oper} {i d : Nat} {op : Op} {o : Oper} {deps : List Nat} (h1 : ops[i]? = some o) (h2 : o.op = op) (h3 : o.dst = some d) (h4 : (deps.all fun j => o.after.any fun e => Region.binds .any e && e.on == j) = true) : OpIs ops i op d deps :=
  ⟨o, h1, h2, h3, fun j hj => by
    obtain ⟨k, hk, hb⟩ := Array.any_eq_true.1 (List.all_eq_true.1 h4 j hj)
    simp only [Bool.and_eq_true, beq_iff_eq] at hb
    exact ⟨_, Array.getElem_mem hk, hb.1, hb.2⟩⟩
end Go.VC
namespace Go.Proofs.Ytnggjekppdlaoaa
open Go Go.RowKit Go.VC
set_option linter.unusedSimpArgs false
set_option linter.unusedVariables false

/-- What the document's run has behind k steps. -/
structure RI (z ob ga gt gh gk gm n : Nat) (vc v : Value) (s : BS) (wx : World) : Prop where
  res : Box wx z nil5
  rf : RFm wx (z + 1) ob ga gt gh gk gm n vc v s.codes s.inn (fun j => ((s.p j).at' : Int)) (fun j => ((s.p j).tk : Int)) (fun j => (s.p j).ch) (fun j => ((s.p j).k : Int)) (fun j => ((s.p j).m : Int))
theorem mapR_zero {α : Type} (n : Nat) (en : α → Value) (x : α) : mapR n en (fun _ => x) = List.replicate n (en x) := by
  apply List.ext_getElem?
  intro i
  by_cases hi : i < n <;> simp [mapR, hi]

section
variable {w w' : World} {B ob ga gt gh gk gm n i : Nat} {vc v : Value} {cs inn : List Int} {a t k m : Nat → Int} {h : Nat → Bool} {xa xt xk xm : Int} {xh : Bool}
theorem RFm.start (H : RFm w B ob ga gt gh gk gm n vc v cs inn a t h k m) (i : Nat) : RFm w B ob ga gt gh gk gm n vc v cs inn (upd a i (a i)) (upd t i (t i)) (upd h i (h i)) (upd k i (k i)) (upd m i (m i)) := by
  rw [upd_self, upd_self, upd_self, upd_self, upd_self]; exact H
abbrev RFi (w : World) (B ob ga gt gh gk gm n i : Nat) (vc v : Value) (cs inn : List Int) (a t : Nat → Int) (h : Nat → Bool) (k m : Nat → Int) (xa xt : Int) (xh : Bool) (xk xm : Int) : Prop := RFm w B ob ga gt gh gk gm n vc v cs inn (upd a i xa) (upd t i xt) (upd h i xh) (upd k i xk) (upd m i xm)
theorem RFi.A (H : RFi w B ob ga gt gh gk gm n i vc v cs inn a t h k m xa xt xh xk xm) (x : Int) : RFi (w.setCell ⟨ga, i, none⟩ (.int .i64 x)) B ob ga gt gh gk gm n i vc v cs inn a t h k m x xt xh xk xm := by
  have := RFm.setA H i x; rwa [upd_upd] at this
theorem RFi.T (H : RFi w B ob ga gt gh gk gm n i vc v cs inn a t h k m xa xt xh xk xm) (x : Int) : RFi (w.setCell ⟨gt, i, none⟩ (.int .i64 x)) B ob ga gt gh gk gm n i vc v cs inn a t h k m xa x xh xk xm := by
  have := RFm.setT H i x; rwa [upd_upd] at this
theorem RFi.H' (H : RFi w B ob ga gt gh gk gm n i vc v cs inn a t h k m xa xt xh xk xm) (x : Bool) : RFi (w.setCell ⟨gh, i, none⟩ (.bool x)) B ob ga gt gh gk gm n i vc v cs inn a t h k m xa xt x xk xm := by
  have := RFm.setH H i x; rwa [upd_upd] at this
theorem RFi.K (H : RFi w B ob ga gt gh gk gm n i vc v cs inn a t h k m xa xt xh xk xm) (x : Int) : RFi (w.setCell ⟨gk, i, none⟩ (.int .i64 x)) B ob ga gt gh gk gm n i vc v cs inn a t h k m xa xt xh x xm := by
  have := RFm.setK H i x; rwa [upd_upd] at this
theorem RFi.M (H : RFi w B ob ga gt gh gk gm n i vc v cs inn a t h k m xa xt xh xk xm) (x : Int) : RFi (w.setCell ⟨gm, i, none⟩ (.int .i64 x)) B ob ga gt gh gk gm n i vc v cs inn a t h k m xa xt xh xk x := by
  have := RFm.setM H i x; rwa [upd_upd] at this
end
theorem RI.forms {z ob ga gt gh gk gm n : Nat} {vc v : Value} {s : BS} {w : World} (h : RI z ob ga gt gh gk gm n vc v s w) : (∃ A c, vc = .slice A s.codes.length c) ∧ (∃ A c, v = .slice A s.inn.length c) := ⟨OwnK.sl (h.rf.1 0 _ rfl), OwnK.sl (h.rf.1 1 _ rfl)⟩
theorem RI.o0 {z ob ga gt gh gk gm n : Nat} {vc v : Value} {s : BS} {w : World} (h : RI z ob ga gt gh gk gm n vc v s w) : OwnK w (z + 1) 27 1 s.codes.length vc (ints s.codes) := h.rf.1 0 _ rfl
theorem RFm.oi {w : World} {B ob ga gt gh gk gm n : Nat} {vc v : Value} {cs inn : List Int} {a t k m : Nat → Int} {h : Nat → Bool} (H : RFm w B ob ga gt gh gk gm n vc v cs inn a t h k m) : OwnK w B 3 1 inn.length v (ints inn) := H.1 1 _ rfl
theorem RFm.lo {w : World} {B ob ga gt gh gk gm n : Nat} {vc v : Value} {cs inn : List Int} {a t k m : Nat → Int} {h : Nat → Bool} (H : RFm w B ob ga gt gh gk gm n vc v cs inn a t h k m) : B ≤ ob ∧ B ≤ ga ∧ B ≤ gt ∧ B ≤ gh ∧ B ≤ gk ∧ B ≤ gm :=
  have h7 : OwnK w B 26 5 1 (sl ob 1) [vc, sl ga n, sl gt n, sl gh n, v] := H.1 7 _ rfl
  ⟨(h7.lt rfl).1, (H.o2.lt rfl).1, (H.o3.lt rfl).1, (H.o4.lt rfl).1, (H.o5.lt rfl).1, (H.o6.lt rfl).1⟩
theorem oth {g g' : Nat} (h : g ≠ g') : (∀ (w : World) i v j, (w.setCell ⟨g, i, none⟩ v).cell? ⟨g', j, none⟩ = w.cell? ⟨g', j, none⟩) ∧ (∀ (w : World) i v j, rdI (w.setCell ⟨g, i, none⟩ v) ⟨g', j, none⟩ = rdI w ⟨g', j, none⟩) ∧ (∀ (w : World) i v j, rdB (w.setCell ⟨g, i, none⟩ v) ⟨g', j, none⟩ = rdB w ⟨g', j, none⟩) ∧
    (∀ (w : World) i v j, rdSA (w.setCell ⟨g, i, none⟩ v) ⟨g', j, none⟩ = rdSA w ⟨g', j, none⟩) ∧ (∀ (w : World) i v j, rdSN (w.setCell ⟨g, i, none⟩ v) ⟨g', j, none⟩ = rdSN w ⟨g', j, none⟩) ∧ (∀ (w : World) i v j, rdSC (w.setCell ⟨g, i, none⟩ v) ⟨g', j, none⟩ = rdSC w ⟨g', j, none⟩) :=
  ⟨fun w i v j => cell_other h, fun w i v j => rdI_other h, fun w i v j => rdB_other h, fun w i v j => rdSA_other h, fun w i v j => rdSN_other h, fun w i v j => rdSC_other h⟩
theorem bin_none {n i : Nat} {P : Nat → BP} (h : enters n i P = false) (l : List Int) : l ++ bin' n i P = l := by unfold bin'; rw [h]; simp
/-- What stays when one of one's lists is written. -/
structure RW (z : Nat) (w0 w : World) : Prop where
  res : Box w z nil5
  bel : Below z w0 w
theorem RW.drewN {z : Nat} {w0 w : World} (h : RW z w0 w) (u : Nat) : RW z w0 (w.drewN u) := ⟨h.res, below_drewN h.bel u⟩
theorem RW.set {w0 w : World} (h : RW w0.heap.size w0 w) {g i : Nat} (hg : w0.heap.size < g) (u : Value) : RW w0.heap.size w0 (w.setCell ⟨g, i, none⟩ u) :=
  ⟨h.res.far (by show g ≠ _; omega) u, (Agree.setCell (X := fun j => w0.heap.size ≤ j) w u (Nat.le_of_lt hg)).to_below h.bel h.bel.size fun j hj => hj⟩
/-- Both, while one process is looked after. -/
structure RX (w0 : World) (ob ga gt gh gk gm n i : Nat) (vc v : Value) (cs inn : List Int) (a t : Nat → Int) (h : Nat → Bool) (k m : Nat → Int) (xa xt : Int) (xh : Bool) (xk xm : Int) (w : World) : Prop where
  rw' : RW w0.heap.size w0 w
  rf : RFi w (w0.heap.size + 1) ob ga gt gh gk gm n i vc v cs inn a t h k m xa xt xh xk xm
section
variable {w0 w : World} {ob ga gt gh gk gm n i : Nat} {vc v : Value} {cs inn : List Int} {a t k m : Nat → Int} {h : Nat → Bool} {xa xt xk xm : Int} {xh : Bool}
theorem RX.A (H : RX w0 ob ga gt gh gk gm n i vc v cs inn a t h k m xa xt xh xk xm w) (x : Int) : RX w0 ob ga gt gh gk gm n i vc v cs inn a t h k m x xt xh xk xm (w.setCell ⟨ga, i, none⟩ (.int .i64 x)) := ⟨H.rw'.set (Nat.lt_of_succ_le (RFm.lo H.rf).2.1) _, RFi.A H.rf x⟩
theorem RX.T (H : RX w0 ob ga gt gh gk gm n i vc v cs inn a t h k m xa xt xh xk xm w) (x : Int) : RX w0 ob ga gt gh gk gm n i vc v cs inn a t h k m xa x xh xk xm (w.setCell ⟨gt, i, none⟩ (.int .i64 x)) := ⟨H.rw'.set (Nat.lt_of_succ_le (RFm.lo H.rf).2.2.1) _, RFi.T H.rf x⟩
theorem RX.H' (H : RX w0 ob ga gt gh gk gm n i vc v cs inn a t h k m xa xt xh xk xm w) (x : Bool) : RX w0 ob ga gt gh gk gm n i vc v cs inn a t h k m xa xt x xk xm (w.setCell ⟨gh, i, none⟩ (.bool x)) := ⟨H.rw'.set (Nat.lt_of_succ_le (RFm.lo H.rf).2.2.2.1) _, RFi.H' H.rf x⟩
theorem RX.K (H : RX w0 ob ga gt gh gk gm n i vc v cs inn a t h k m xa xt xh xk xm w) (x : Int) : RX w0 ob ga gt gh gk gm n i vc v cs inn a t h k m xa xt xh x xm (w.setCell ⟨gk, i, none⟩ (.int .i64 x)) := ⟨H.rw'.set (Nat.lt_of_succ_le (RFm.lo H.rf).2.2.2.2.1) _, RFi.K H.rf x⟩
theorem RX.M (H : RX w0 ob ga gt gh gk gm n i vc v cs inn a t h k m xa xt xh xk xm w) (x : Int) : RX w0 ob ga gt gh gk gm n i vc v cs inn a t h k m xa xt xh xk x (w.setCell ⟨gm, i, none⟩ (.int .i64 x)) := ⟨H.rw'.set (Nat.lt_of_succ_le (RFm.lo H.rf).2.2.2.2.2) _, RFi.M H.rf x⟩
theorem RX.below {w' : World} (H : RX w0 ob ga gt gh gk gm n i vc v cs inn a t h k m xa xt xh xk xm w) (hB : Below w.heap.size w w') : RX w0 ob ga gt gh gk gm n i vc v cs inn a t h k m xa xt xh xk xm w' := ⟨⟨H.rw'.res.below hB, H.rw'.bel.trans (hB.mono H.rw'.bel.size)⟩, Fam.below H.rf hB⟩
theorem RX.drewN (H : RX w0 ob ga gt gh gk gm n i vc v cs inn a t h k m xa xt xh xk xm w) (u : Nat) : RX w0 ob ga gt gh gk gm n i vc v cs inn a t h k m xa xt xh xk xm (w.drewN u) := ⟨H.rw'.drewN u, Fam.drewN H.rf u⟩
end
theorem RW.grow {z : Nat} {w0 w w' : World} {row : Option Nat} (h : RW z w0 w) (hg : w.grownBy w' row) (hr : ∀ b, row = some b → z + 1 ≤ b) (hz : z ≤ w0.heap.size := by exact Nat.le_refl _) : RW z w0 w' :=
  ⟨h.res.agree (X := fun j => z + 1 ≤ j) (Agree.grown hg hr) (by omega), (Agree.grown (X := fun j => z + 1 ≤ j) hg hr).to_below h.bel (by have := h.bel.size; omega) fun j hj => by omega⟩
theorem RI.step {z ob ga gt gh gk gm n i : Nat} {vc v : Value} {s : BS} {w : World} {xa xt xk xm : Int} {xh : Bool} (p : BP) (hp : bnew n i s.p = p) (hi : i < n) (hres : Box w z nil5)
    (H : RFi w (z + 1) ob ga gt gh gk gm n i vc v (s.codes ++ [0]) (s.inn ++ bin' n i s.p) (fun j => ((s.p j).at' : Int)) (fun j => ((s.p j).tk : Int)) (fun j => (s.p j).ch) (fun j => ((s.p j).k : Int)) (fun j => ((s.p j).m : Int)) xa xt xh xk xm)
    (ea : xa = p.at') (et : xt = p.tk) (eh : xh = p.ch) (ek : xk = p.k) (em : xm = p.m) : RI z ob ga gt gh gk gm n vc v (bstep n (i : Int) s) w := by
  unfold bstep
  rw [if_pos (by omega), Int.toNat_natCast, hp]
  subst ea et eh ek em
  refine ⟨hres, ?_⟩
  show RFm _ _ _ _ _ _ _ _ _ _ _ _ _ (fun j => ((upd s.p i p j).at' : Int)) (fun j => ((upd s.p i p j).tk : Int)) (fun j => (upd s.p i p j).ch) (fun j => ((upd s.p i p j).k : Int)) (fun j => ((upd s.p i p j).m : Int))
  rw [upd_map (fun p : BP => (p.at' : Int)), upd_map (fun p : BP => (p.tk : Int)), upd_map (fun p : BP => p.ch), upd_map (fun p : BP => (p.k : Int)), upd_map (fun p : BP => (p.m : Int))]
  exact H

/-- An answer whose lists lie in one's own part of memory. -/
def BakO (B n : Nat) (s : BS) (v : Value) (w : World) : Prop := ∃ v0 v1 v2 v3 v4, v = .agg #[v0, v1, v2, v3, v4] ∧ OwnK w B 27 1 s.codes.length v0 (ints s.codes) ∧ OwnK w B 3 1 n v1 (ints (atL s.p n)) ∧ OwnK w B 3 1 n v2 (ints (tkL s.p n)) ∧ OwnK w B 4 1 n v3 (bools (chL s.p n)) ∧ OwnK w B 3 1 s.inn.length v4 (ints s.inn)
theorem BakO.agree {B n : Nat} {s : BS} {v : Value} {w w' : World} {X : Nat → Prop} (h : BakO B n s v w) (hA : Agree X w w') (hX : ∀ j, X j → j < B) : BakO B n s v w' := by
  obtain ⟨v0, v1, v2, v3, v4, rfl, s0, s1, s2, s3, s4⟩ := h
  have k : ∀ {e : TypeId} {n : Nat} {v : Value} {xs : List Value}, OwnK w B e 1 n v xs → OwnK w' B e 1 n v xs := fun h => h.keep fun g hg => hA.block g (h.lt hg).2 fun e => by have := hX g e; have := (h.lt hg).1; omega
  exact ⟨v0, v1, v2, v3, v4, rfl, k s0, k s1, k s2, k s3, k s4⟩
theorem BakO.bak {B n : Nat} {s : BS} {v : Value} {w : World} (h : BakO B n s v w) : BakV n s v w := by
  obtain ⟨v0, v1, v2, v3, v4, rfl, s0, s1, s2, s3, s4⟩ := h
  exact ⟨v0, v1, v2, v3, v4, rfl, OwnK.sv s0, OwnK.sv s1, OwnK.sv s2, OwnK.sv s3, OwnK.sv s4⟩

set_option maxRecDepth 8000 in
set_option maxHeartbeats 40000000 in
/-- The document's run, but for the steps from the third and the fourth place, which are told apart: one proof of all would be too much for the kernel. -/
noncomputable def refBut : { P : Prop // P → ∀ (A : Option Addr) (n : Nat) (c : Nat) (l : List Int) (w : World), Rd w A (l.map (Value.int .i64)) → 1 ≤ n → n ≤ 4 → l.length ≤ 120 →
    Calls Try.prog 9 #[.int .i64 n, .slice A l.length c] w fun e w' => ∃ v, e = .returned v ∧ BakO (w.heap.size + 1) n (bst n (fun i => l.getD i 0) l.length) v w' ∧ Below w.heap.size w w' } := by
  refine ⟨?P3 ∧ ?P4, fun HH A n c l w hr h1 h4 hl => ?body⟩
  case body =>
    refine calls_vc (rs := [.cell 4 26]) Fa.mix Try.func9 rfl Try.ntmps9 rfl (by kernel_rfl) (Nat.le_of_ble_eq_true rfl) ?_
    simp -dsimp only [Fa.F9, VC.Now, VC.vc, VC.lib, VC.regQ, VC.loopK, VC.reg, VC.opP, VC.pv, VC.thenF, VC.blkF, VC.retF, VC.resV, VC.oneV, VC.evo, VC.bin, VC.binI, VC.cmpI, VC.arithI, VC.ldv, VC.slv, VC.pickP, VC.holds, VC.chainOf, VC.look, VC.junk, VC.put, VC.eff, VC.callee, VC.pureB, VC.rdK, VC.rdKs, VC.okKs, VC.eqKs, VC.fillL, VC.putL, VC.mixF, VC.setAll, Nat.reduceAdd, Nat.reduceSub, Nat.reduceMul, if_true, if_false, ↓reduceIte, forall_const, implies_true, reduceCtorEq, ne_eq, Nat.reduceBNe, Nat.reduceBEq, IntKind.signed, Nat.reduceEqDiff, Nat.reduceLeDiff, Nat.reduceLT, eq_self, Int.reduceEq, Int.reduceLT, Int.reduceLE, Int.reduceAdd, Int.reduceSub, VC.regC_nil, VC.regC_cons, VC.regCK_eq, VC.callQ, VC.tailQ, VC.goCall, VC.chStep]
    have hb0 : Box (w.alloc (.cells #[nilS, nilS, nilS, nilS, nilS] 26)) w.heap.size nil5 := Box.new w _ _
    have hB0 : Below w.heap.size w (w.alloc (.cells #[nilS, nilS, nilS, nilS, nilS] 26)) := below_box (Below.refl _ _) _
    have hz0 : (w.alloc (.cells #[nilS, nilS, nilS, nilS, nilS] 26)).heap.size = w.heap.size + 1 := by simp
    generalize hwa : w.alloc (.cells #[nilS, nilS, nilS, nilS, nilS] 26) = wa at hb0 hB0 hz0 ⊢
    clear hwa
    refine WP_held 8 (fun _ => False) (.take 0 (.take 2 (.take 4 (.any [1,3,5,6,7] (.last 8 .done))))) Fa.mix (by kernel_rfl) rfl ?_
    simp -dsimp only [VC.heldF_done, VC.heldF_last, VC.planF_done, VC.planF_take, VC.planF_one, VC.planF_two, VC.planK_eq, VC.heldF_take, VC.heldF_one, VC.heldK_eq, VC.okRd, Fa.F9, VC.Now, VC.vc, VC.lib, VC.regQ, VC.loopK, VC.reg, VC.opP, VC.pv, VC.thenF, VC.blkF, VC.retF, VC.resV, VC.oneV, VC.evo, VC.bin, VC.binI, VC.cmpI, VC.arithI, VC.ldv, VC.slv, VC.pickP, VC.holds, VC.chainOf, VC.look, VC.junk, VC.put, VC.eff, VC.callee, VC.pureB, VC.rdK, VC.rdKs, VC.okKs, VC.eqKs, VC.fillL, VC.putL, VC.mixF, VC.setAll, Nat.reduceAdd, Nat.reduceSub, Nat.reduceMul, if_true, if_false, ↓reduceIte, forall_const, implies_true, reduceCtorEq, ne_eq, Nat.reduceBNe, Nat.reduceBEq, IntKind.signed, Nat.reduceEqDiff, Nat.reduceLeDiff, Nat.reduceLT, eq_self, Int.reduceEq, Int.reduceLT, Int.reduceLE, Int.reduceAdd, Int.reduceSub, VC.regC_nil, VC.regC_cons, VC.regCK_eq, VC.callQ, VC.tailQ, VC.goCall, VC.chStep]
    refine makes_any (n := n) (wA := wa) (.mk0 rfl rfl rfl) (.mk0 rfl rfl rfl) (.mk0 rfl rfl rfl) (.mkL rfl rfl rfl (by first | rfl | kernel_rfl)) (.mk0 rfl rfl rfl) (Nat.le_of_ble_eq_true rfl) rfl rfl rfl (by omega) (JM.start n wa _) ?_
    intro g w1 ga gt gh ob e12 e14 e16 e5 e17 hJ
    simp -dsimp only [VC.heldF_done, VC.heldF_last, VC.planF_done, VC.planF_take, VC.planF_one, VC.planF_two, VC.planK_eq, VC.heldF_take, VC.heldF_one, VC.heldK_eq, VC.okRd, Fa.F9, VC.setD, e12, e14, e16, e5, e17, VC.Now, VC.vc, VC.lib, VC.regQ, VC.loopK, VC.reg, VC.opP, VC.pv, VC.thenF, VC.blkF, VC.retF, VC.resV, VC.oneV, VC.evo, VC.bin, VC.binI, VC.cmpI, VC.arithI, VC.ldv, VC.slv, VC.pickP, VC.holds, VC.chainOf, VC.look, VC.junk, VC.put, VC.eff, VC.callee, VC.pureB, VC.rdK, VC.rdKs, VC.okKs, VC.eqKs, VC.fillL, VC.putL, VC.mixF, VC.setAll, Nat.reduceAdd, Nat.reduceSub, Nat.reduceMul, if_true, if_false, ↓reduceIte, forall_const, implies_true, reduceCtorEq, ne_eq, Nat.reduceBNe, Nat.reduceBEq, IntKind.signed, Nat.reduceEqDiff, Nat.reduceLeDiff, Nat.reduceLT, eq_self, Int.reduceEq, Int.reduceLT, Int.reduceLE, Int.reduceAdd, Int.reduceSub, VC.regC_nil, VC.regC_cons, VC.regCK_eq, VC.callQ, VC.tailQ, VC.goCall, VC.chStep]
    have q7 : FG n [] g 7 = some ⟨26, 5, 1, sl ob 1, nil5⟩ := by simp [FG, e5, ptB]
    have ho7 : OwnK w1 wa.heap.size 26 5 1 (sl ob 1) nil5 := hJ.fam.1 7 _ q7
    have hob : wa.heap.size ≤ ob := (ho7.lt rfl).1
    have hF := hJ.fam.stAll (q := 7) q7 (vs := [nilS, sl ga n, sl gt n, sl gh n, nilS]) rfl
    have hst := (ho7.box.stAll (vs := [nilS, sl ga n, sl gt n, sl gh n, nilS]) rfl (by intro x hx; simp at hx; rcases hx with rfl | rfl | rfl | rfl | rfl <;> rfl)).1
    have hag : Agree (fun j => wa.heap.size ≤ j) w1 (stW w1 ⟨ob, 0, none⟩ 0 [nilS, sl ga n, sl gt n, sl gh n, nilS]) := stW_agree (X := fun j => wa.heap.size ≤ j) hob _ _ _
    have hB2 : Below wa.heap.size wa (stW w1 ⟨ob, 0, none⟩ 0 [nilS, sl ga n, sl gt n, sl gh n, nilS]) := hag.to_below hJ.ag hJ.ag.size fun j hj => hj
    refine ⟨hst, ?_⟩
    generalize hw2 : stW w1 ⟨ob, 0, none⟩ 0 [nilS, sl ga n, sl gt n, sl gh n, nilS] = w2 at *
    clear hw2 hst hag ho7
    have hsz2 := hB2.size
    refine OPW_make (n := n) (base := wa.heap.size) rfl Fa.apI22 rfl rfl rfl rfl (by omega) (by omega) hB2.size fun w3 ho3 hg3 => ?_
    have hB23 : Below w2.heap.size w2 w3 := (Below.refl _ w2).grown hg3 (Nat.le_refl _) fun k hk => by cases hk
    have hF3 := hF.put 5 hB23 ⟨_, _, rfl, ho3⟩ (fun g hg => by cases hg; exact Nat.le_refl _)
    have hB3 := hB2.trans (hB23.mono hB2.size)
    have hsz3 := hB3.size
    simp -dsimp only [Fa.F9, VC.Now, VC.vc, VC.lib, VC.regQ, VC.loopK, VC.reg, VC.opP, VC.pv, VC.thenF, VC.blkF, VC.retF, VC.resV, VC.oneV, VC.evo, VC.bin, VC.binI, VC.cmpI, VC.arithI, VC.ldv, VC.slv, VC.pickP, VC.holds, VC.chainOf, VC.look, VC.junk, VC.put, VC.eff, VC.callee, VC.pureB, VC.rdK, VC.rdKs, VC.okKs, VC.eqKs, VC.fillL, VC.putL, VC.mixF, VC.setAll, Nat.reduceAdd, Nat.reduceSub, Nat.reduceMul, if_true, if_false, ↓reduceIte, forall_const, implies_true, reduceCtorEq, ne_eq, Nat.reduceBNe, Nat.reduceBEq, IntKind.signed, Nat.reduceEqDiff, Nat.reduceLeDiff, Nat.reduceLT, eq_self, Int.reduceEq, Int.reduceLT, Int.reduceLE, Int.reduceAdd, Int.reduceSub, VC.regC_nil, VC.regC_cons, VC.regCK_eq, VC.callQ, VC.tailQ, VC.goCall, VC.chStep]
    refine OPW_make (n := n) (base := wa.heap.size) rfl Fa.apI22 rfl rfl rfl rfl (by omega) (by omega) hB3.size fun w4 ho4 hg4 => ?_
    have hB34 : Below w3.heap.size w3 w4 := (Below.refl _ w3).grown hg4 (Nat.le_refl _) fun k hk => by cases hk
    have hF4 := hF3.put 6 hB34 ⟨_, _, rfl, ho4⟩ (fun g hg => by cases hg; exact Nat.le_refl _)
    have hF5 := (hF4.put 0 (Below.refl _ w4) (OwnK.nil _ _ 27 1) (fun g hg => by cases hg)).put 1 (Below.refl _ w4) (OwnK.nil _ _ 3 1) (fun g hg => by cases hg)
    have hB4 := hB3.trans (hB34.mono hB3.size)
    have hRI : RI w.heap.size ob ga gt gh w2.heap.size w3.heap.size n nilS nilS (bst n (fun i => l.getD i 0) 0) w4 := by
      refine ⟨hb0.below hB4, ?_⟩
      rw [hz0] at hF5
      refine hF5.drop fun q x hq => ?_
      rcases q with _|_|_|_|_|_|_|_|q <;> simp [RF, bst] at hq <;> subst hq <;> simp [upd, FG, e12, e14, e16, mapR_zero, Function.comp_def]
    simp -dsimp only [Fa.F9, VC.Now, VC.vc, VC.lib, VC.regQ, VC.loopK, VC.reg, VC.opP, VC.pv, VC.thenF, VC.blkF, VC.retF, VC.resV, VC.oneV, VC.evo, VC.bin, VC.binI, VC.cmpI, VC.arithI, VC.ldv, VC.slv, VC.pickP, VC.holds, VC.chainOf, VC.look, VC.junk, VC.put, VC.eff, VC.callee, VC.pureB, VC.rdK, VC.rdKs, VC.okKs, VC.eqKs, VC.fillL, VC.putL, VC.mixF, VC.setAll, Nat.reduceAdd, Nat.reduceSub, Nat.reduceMul, if_true, if_false, ↓reduceIte, forall_const, implies_true, reduceCtorEq, ne_eq, Nat.reduceBNe, Nat.reduceBEq, IntKind.signed, Nat.reduceEqDiff, Nat.reduceLeDiff, Nat.reduceLT, eq_self, Int.reduceEq, Int.reduceLT, Int.reduceLE, Int.reduceAdd, Int.reduceSub, VC.regC_nil, VC.regC_cons, VC.regCK_eq, VC.callQ, VC.tailQ, VC.goCall, VC.chStep]
    have hBw := hB0.trans (hB4.mono hB0.size)
    clear hF hF3 hF4 hF5 hB2 hB23 hB3 hB34 hB4 ho3 ho4 hg3 hg4 hJ q7
    generalize w2.heap.size = gk at *
    generalize w3.heap.size = gm at *
    refine loop_slots Fa.mix [24] [9, 10, 25, 26, 27, 28, 29, 30, 31, 32, 33, 34, 35, 36, 37, 38, 39, 40, 41, 42, 43, 44, 45, 46, 47, 48, 49, 50, 51, 52, 53, 54, 55, 56, 57, 58, 59, 60, 61, 62, 63, 64, 65, 66, 67, 68, 69, 70, 71, 72, 73, 74, 75, 76, 77, 78, 79, 80, 81, 82, 83, 84, 85, 86, 87, 88, 89, 90, 91, 92, 93, 94, 95, 96, 97, 98, 99, 100, 101, 102, 103, 104, 105, 106, 107, 108, 109, 110, 111, 112, 113, 114, 115, 116, 117, 118, 119, 120, 121, 122, 123, 124, 125, 126, 127, 128, 129, 130, 131, 132, 133, 134, 135, 136, 137, 138, 139, 140, 141, 142, 143, 144, 145, 146, 147, 148, 149, 150, 151, 152, 153, 154, 155, 156, 157, 158, 159, 160, 161, 162, 163, 164, 165, 166, 167, 168, 169, 170, 171, 172, 173, 174, 175, 176, 177, 178, 179, 180, 181, 182, 183, 184, 185, 186, 187, 188, 189, 190, 191, 192, 193, 194, 195, 196, 197, 198, 199, 200, 201, 202, 203, 204, 205, 206, 207, 208, 209, 210, 211, 212, 213, 214] (fun m vs wx => ∃ (k : Nat) (v vc : Value), k + m = l.length ∧ vs = [.int .i64 k] ∧ Below w.heap.size w wx ∧ RI w.heap.size ob ga gt gh gk gm n vc v (bst n (fun i => l.getD i 0) k) wx) l.length (by kernel_rfl) rfl
      ⟨0, nilS, nilS, by omega, rfl, hBw, hRI⟩ ?_
    clear hRI hBw
    rintro m vs u wx ⟨k, v, vc, hkm, rfl, hBx, hRI⟩
    obtain ⟨hok, hinl, hco⟩ := bst_ok n (fun i => l.getD i 0) k
    obtain ⟨⟨Ac, cc, rfl⟩, ⟨Av, cv, rfl⟩⟩ := hRI.forms
    obtain ⟨o0, o1, o2, o3, o4⟩ := hRI.rf.out
    obtain ⟨l0, l1, l2, l3, l4, l5⟩ := hRI.rf.lo
    by_cases hk : k < l.length
    · obtain ⟨b, o, rfl, hb, hc⟩ := (hr.below hBx).at hk 0
      generalize hx : l.getD k 0 = x at hc
      have hbs : bst n (fun i => l.getD i 0) (k + 1) = bstep n x (bst n (fun i => l.getD i 0) k) := by rw [← hx]; rfl
      generalize bst n (fun i => l.getD i 0) k = s at *
      have e5 : ((k : Int) < l.length) = True := eq_true (by omega)
      have grow : ∀ (x : Int) (v5 : Value) (w5 : World), OwnK w5 (w.heap.size + 1) 27 1 (s.codes.length + 1) v5 (ints s.codes ++ [.int .i64 x]) → wx.grownBy w5 (Value.slice Ac s.codes.length cc).ownBlock → RW w.heap.size w (w5.setCell ⟨ob, 0, none⟩ v5) := fun x v5 w5 ho5 hg5 => by
        have fc : ∀ b, (Value.slice Ac s.codes.length cc).ownBlock = some b → w.heap.size + 1 ≤ b := fun b e => (hRI.o0.lt e).1
        have hag : Agree (fun j => w.heap.size + 1 ≤ j) wx (w5.setCell ⟨ob, 0, none⟩ v5) := (Agree.grown hg5 fc).trans (Agree.setCell w5 (a := ⟨ob, 0, none⟩) _ l0)
        exact ⟨hRI.res.agree hag (by omega), hag.to_below hBx hBx.size fun j hj => by omega⟩
      by_cases hin : 0 ≤ x ∧ x < n
      · obtain ⟨i, rfl⟩ : ∃ i : Nat, x = i := ⟨x.toNat, by omega⟩
        have hi : i < n := by omega
        have e6 : ((i : Int) < 0) = False := eq_false (by omega)
        have e7 : ((n : Int) ≤ i) = False := eq_false (by omega)
        simp -dsimp only [Fa.F9, e5, e6, e7, rdI_of hc, hc, rdSA_of o0, rdSN_of o0, rdSC_of o0, o0, Nat.zero_add, Nat.mul_one, Int.toNat_natCast, VC.Now, VC.vc, VC.lib, VC.regQ, VC.loopK, VC.reg, VC.opP, VC.pv, VC.thenF, VC.blkF, VC.retF, VC.resV, VC.oneV, VC.evo, VC.bin, VC.binI, VC.cmpI, VC.arithI, VC.ldv, VC.slv, VC.pickP, VC.holds, VC.chainOf, VC.look, VC.junk, VC.put, VC.eff, VC.callee, VC.pureB, VC.rdK, VC.rdKs, VC.okKs, VC.eqKs, VC.fillL, VC.putL, VC.stW, VC.stOK, VC.mixF, VC.setAll, Nat.reduceAdd, Nat.reduceSub, Nat.reduceMul, if_true, if_false, ↓reduceIte, forall_const, implies_true, reduceCtorEq, ne_eq, Nat.reduceBNe, Nat.reduceBEq, IntKind.signed, Nat.reduceEqDiff, Nat.reduceLeDiff, Nat.reduceLT, eq_self, Int.reduceEq, Int.reduceLT, Int.reduceLE, Int.reduceAdd, Int.reduceSub, VC.regC_nil, VC.regC_cons, VC.regCK_eq, VC.callQ, VC.tailQ, VC.goCall, VC.chStep]
        refine ⟨by omega, fun uu => ?_⟩
        refine OPW_appK rfl Fa.apI23 rfl rfl rfl (by simp [Value.oneCell']) hRI.o0 (Nat.le_of_lt (Nat.lt_of_le_of_lt l1 (hRI.rf.o2.lt rfl).2)) (by omega) (by decide) fun v5 w5 ho5 hg5 hst5 => ?_
        obtain ⟨A5, c5, rfl, _⟩ := id ho5
        rw [VC.Now, VC.seqK_eq]
        have hRW := grow _ _ _ ho5 hg5
        obtain ⟨r1, r2, r3⟩ := hRI.rf.code ho5 hg5 hst5
        obtain ⟨q0, q1, q2, q3, q4⟩ := r3.out
        obtain ⟨c0, c1, c2, c3, c4⟩ := r3.cells hi
        obtain ⟨t0, t1, t2, t3, t4⟩ := r3.soft hi
        obtain ⟨⟨n0, n1, n2, n3, n4⟩, ⟨n5, n6, n7, n8, n9⟩, ⟨n10, n11, n12, n13, n14⟩, ⟨n15, n16, n17, n18, n19⟩, ⟨n20, n21, n22, n23, n24⟩, ⟨n25, n26, n27, n28, n29⟩⟩ := r3.apart
        have hS : RX w ob ga gt gh gk gm n i _ _ _ _ _ _ _ _ _ _ _ _ _ _ (w5.setCell ⟨ob, 0, none⟩ (.slice A5 (s.codes.length + 1) c5)) := ⟨hRW, r3.start i⟩
        have ii : 0 ≤ (i : Int) ∧ (i : Int) < n := ⟨by omega, by omega⟩
        obtain ⟨a1, a2, a3, a4, a5⟩ := hok i
        have k0 : 0 ≤ ((s.p i).k : Int) := by omega
        have fk : fits .i64 ((k : Int) + 1) := fits_i64_nat (by omega)
        have fk1 : fits .i64 (((s.p i).k : Int) + 1) := fits_i64 (by omega) (by omega)
        have fm1 : fits .i64 (((s.p i).m : Int) + 1) := fits_i64 (by omega) (by omega)
        have z0 : ob < (w5.setCell ⟨ob, 0, none⟩ (.slice A5 (s.codes.length + 1) c5)).heap.size := World.block_lt_of_cell? _ _ q1
        have z1 : gt < (w5.setCell ⟨ob, 0, none⟩ (.slice A5 (s.codes.length + 1) c5)).heap.size := World.block_lt_of_cell? _ _ c1
        have z2 : gh < (w5.setCell ⟨ob, 0, none⟩ (.slice A5 (s.codes.length + 1) c5)).heap.size := World.block_lt_of_cell? _ _ c2
        have z3 : gk < (w5.setCell ⟨ob, 0, none⟩ (.slice A5 (s.codes.length + 1) c5)).heap.size := World.block_lt_of_cell? _ _ c3
        have z4 : gm < (w5.setCell ⟨ob, 0, none⟩ (.slice A5 (s.codes.length + 1) c5)).heap.size := World.block_lt_of_cell? _ _ c4
        have y0 : ob < w5.heap.size := by simpa using z0
        have y1 : gt < w5.heap.size := by simpa using z1
        have y2 : gh < w5.heap.size := by simpa using z2
        have y3 : gk < w5.heap.size := by simpa using z3
        have y4 : gm < w5.heap.size := by simpa using z4
        simp -dsimp only [Fa.F9, e5, e6, e7, rdI_of hc, hc, rdSA_of o0, rdSN_of o0, rdSC_of o0, o0, Nat.zero_add, Nat.mul_one, Int.toNat_natCast, rdSA_of q1, rdSN_of q1, rdSC_of q1, q1, rdSA_of q2, rdSN_of q2, rdSC_of q2, q2, rdSA_of q3, rdSN_of q3, rdSC_of q3, q3, rdSA_of q4, rdSN_of q4, rdSC_of q4, q4, rdI_of c0, c0, rdI_of c1, c1, rdB_of c2, c2, rdI_of c3, c3, rdI_of c4, c4, t0, t1, t2, t3, t4, VC.frozen_set, Option.isSome_some, oth n5, oth n6, oth n7, oth n8, oth n9, oth n10, oth n11, oth n12, oth n13, oth n14, oth n15, oth n16, oth n17, oth n18, oth n19, oth n20, oth n21, oth n22, oth n23, oth n24, oth n25, oth n26, oth n27, oth n28, oth n29, ii, r1, r2, k0, fk, fk1, fm1, z0, z1, z2, z3, z4, y0, y1, y2, y3, y4, VC.Now, VC.vc_skip, VC.vc_ret, VC.vc_exit, VC.vc_block, VC.vc_cond, VC.vc_region, VC.lib, VC.regQ, VC.loopK, VC.reg, VC.opP, VC.pv, VC.thenF, VC.blkF, VC.retF, VC.resV, VC.oneV, VC.evo, VC.bin, VC.binI, VC.cmpI, VC.arithI, VC.ldv, VC.slv, VC.pickP, VC.holds, VC.chainOf, VC.look, VC.junk, VC.put, VC.eff, VC.callee, VC.pureB, VC.rdK, VC.rdKs, VC.okKs, VC.eqKs, VC.fillL, VC.putL, VC.stW, VC.stOK, VC.mixF, VC.setAll, Nat.reduceAdd, Nat.reduceSub, Nat.reduceMul, if_true, if_false, ↓reduceIte, forall_const, implies_true, reduceCtorEq, ne_eq, Nat.reduceBNe, Nat.reduceBEq, IntKind.signed, Nat.reduceEqDiff, Nat.reduceLeDiff, Nat.reduceLT, eq_self, Int.reduceEq, Int.reduceLT, Int.reduceLE, Int.reduceAdd, Int.reduceSub, VC.regC_nil, VC.regC_cons, VC.regCK_eq, VC.callQ, VC.tailQ, VC.goCall, VC.chStep]
        (repeat rw [vc_seq])
        refine vc_plain _ fun Q hQ => ?_
        simp -dsimp only [Fa.F9, e5, e6, e7, rdI_of hc, hc, rdSA_of o0, rdSN_of o0, rdSC_of o0, o0, Nat.zero_add, Nat.mul_one, Int.toNat_natCast, rdSA_of q1, rdSN_of q1, rdSC_of q1, q1, rdSA_of q2, rdSN_of q2, rdSC_of q2, q2, rdSA_of q3, rdSN_of q3, rdSC_of q3, q3, rdSA_of q4, rdSN_of q4, rdSC_of q4, q4, rdI_of c0, c0, rdI_of c1, c1, rdB_of c2, c2, rdI_of c3, c3, rdI_of c4, c4, t0, t1, t2, t3, t4, VC.frozen_set, Option.isSome_some, oth n5, oth n6, oth n7, oth n8, oth n9, oth n10, oth n11, oth n12, oth n13, oth n14, oth n15, oth n16, oth n17, oth n18, oth n19, oth n20, oth n21, oth n22, oth n23, oth n24, oth n25, oth n26, oth n27, oth n28, oth n29, ii, r1, r2, k0, fk, fk1, fm1, z0, z1, z2, z3, z4, y0, y1, y2, y3, y4, VC.Now, VC.vc_skip, VC.vc_ret, VC.vc_exit, VC.vc_block, VC.vc_cond, VC.vc_region, VC.lib, VC.regQ, VC.loopK, VC.reg, VC.opP, VC.pv, VC.thenF, VC.blkF, VC.retF, VC.resV, VC.oneV, VC.evo, VC.bin, VC.binI, VC.cmpI, VC.arithI, VC.ldv, VC.slv, VC.pickP, VC.holds, VC.chainOf, VC.look, VC.junk, VC.put, VC.eff, VC.callee, VC.pureB, VC.rdK, VC.rdKs, VC.okKs, VC.eqKs, VC.fillL, VC.putL, VC.stW, VC.stOK, VC.mixF, VC.setAll, Nat.reduceAdd, Nat.reduceSub, Nat.reduceMul, if_true, if_false, ↓reduceIte, forall_const, implies_true, reduceCtorEq, ne_eq, Nat.reduceBNe, Nat.reduceBEq, IntKind.signed, Nat.reduceEqDiff, Nat.reduceLeDiff, Nat.reduceLT, eq_self, Int.reduceEq, Int.reduceLT, Int.reduceLE, Int.reduceAdd, Int.reduceSub, VC.regC_nil, VC.regC_cons, VC.regCK_eq, VC.callQ, VC.tailQ, VC.goCall, VC.chStep]
        subst hQ
        simp -dsimp only [VC.Now, VC.vc_skip, VC.vc_ret, VC.vc_exit, VC.vc_block, VC.vc_cond, VC.vc_region, VC.lib, VC.regQ, VC.loopK, VC.reg, VC.opP, VC.pv, VC.thenF, VC.blkF, VC.retF, VC.resV, VC.oneV, VC.evo, VC.bin, VC.binI, VC.cmpI, VC.arithI, VC.ldv, VC.slv, VC.pickP, VC.holds, VC.chainOf, VC.look, VC.junk, VC.put, VC.eff, VC.callee, VC.pureB, VC.rdK, VC.rdKs, VC.okKs, VC.eqKs, VC.fillL, VC.putL, VC.stW, VC.stOK, VC.mixF, VC.setAll, Nat.reduceAdd, Nat.reduceSub, Nat.reduceMul, if_true, if_false, ↓reduceIte, forall_const, implies_true, reduceCtorEq, ne_eq, Nat.reduceBNe, Nat.reduceBEq, IntKind.signed, Nat.reduceEqDiff, Nat.reduceLeDiff, Nat.reduceLT, eq_self, Int.reduceEq, Int.reduceLT, Int.reduceLE, Int.reduceAdd, Int.reduceSub, VC.regC_nil, VC.regC_cons, VC.regCK_eq, VC.callQ, VC.tailQ, VC.goCall, VC.chStep]
        rcases five (hok i).1 with h0 | h0 | h0 | h0 | h0 | h0
        · have h0' : ((s.p i).at' : Int) = 0 := by omega
          have e : bnew n i s.p = ⟨1, 0, 0, (s.p i).tk, true⟩ := by unfold bnew; rw [if_pos h0]
          have H9 := (RX.A ((RX.M ((RX.K ((RX.H' (hS) true)) 0)) 0)) 1)
          rw [← bin_none (noEnter (n := n) (by omega : (s.p i).at' ≠ 3)) s.inn] at H9
          have hR := RI.step _ e hi H9.rw'.res H9.rf (by simp [h0]) (by simp [h0]) (by simp [h0]) (by simp [h0]) (by simp [h0])
          rw [← hbs] at hR
          simp -dsimp only [Fa.F9, e5, e6, e7, rdI_of hc, hc, rdSA_of o0, rdSN_of o0, rdSC_of o0, o0, Nat.zero_add, Nat.mul_one, Int.toNat_natCast, rdSA_of q1, rdSN_of q1, rdSC_of q1, q1, rdSA_of q2, rdSN_of q2, rdSC_of q2, q2, rdSA_of q3, rdSN_of q3, rdSC_of q3, q3, rdSA_of q4, rdSN_of q4, rdSC_of q4, q4, rdI_of c0, c0, rdI_of c1, c1, rdB_of c2, c2, rdI_of c3, c3, rdI_of c4, c4, t0, t1, t2, t3, t4, VC.frozen_set, Option.isSome_some, oth n5, oth n6, oth n7, oth n8, oth n9, oth n10, oth n11, oth n12, oth n13, oth n14, oth n15, oth n16, oth n17, oth n18, oth n19, oth n20, oth n21, oth n22, oth n23, oth n24, oth n25, oth n26, oth n27, oth n28, oth n29, ii, r1, r2, k0, fk, fk1, fm1, z0, z1, z2, z3, z4, y0, y1, y2, y3, y4, h0', VC.Now, VC.vc, VC.lib, VC.regQ, VC.loopK, VC.reg, VC.opP, VC.pv, VC.thenF, VC.blkF, VC.retF, VC.resV, VC.oneV, VC.evo, VC.bin, VC.binI, VC.cmpI, VC.arithI, VC.ldv, VC.slv, VC.pickP, VC.holds, VC.chainOf, VC.look, VC.junk, VC.put, VC.eff, VC.callee, VC.pureB, VC.rdK, VC.rdKs, VC.okKs, VC.eqKs, VC.fillL, VC.putL, VC.stW, VC.stOK, VC.mixF, VC.setAll, Nat.reduceAdd, Nat.reduceSub, Nat.reduceMul, if_true, if_false, ↓reduceIte, forall_const, implies_true, reduceCtorEq, ne_eq, Nat.reduceBNe, Nat.reduceBEq, IntKind.signed, Nat.reduceEqDiff, Nat.reduceLeDiff, Nat.reduceLT, eq_self, Int.reduceEq, Int.reduceLT, Int.reduceLE, Int.reduceAdd, Int.reduceSub, VC.regC_nil, VC.regC_cons, VC.regCK_eq, VC.callQ, VC.tailQ, VC.goCall, VC.chStep]
          exact ⟨SAME.intro (by kernel_rfl), m - 1, by omega, k + 1, _, _, by omega, rfl, H9.rw'.bel, hR⟩
        · have h0' : ((s.p i).at' : Int) = 1 := by omega
          by_cases hkn : (s.p i).k < n
          · have e8 : (((s.p i).k : Int) < n) = True := eq_true (by omega)
            obtain ⟨_, d1, d2, _, _⟩ := r3.cells hkn
            by_cases hm : (s.p i).m < (s.p (s.p i).k).tk
            · have e9 : (((s.p i).m : Int) < ((s.p (s.p i).k).tk : Int)) = True := eq_true (by omega)
              have e : bnew n i s.p = ⟨1, (s.p i).k + 1, (s.p (s.p i).k).tk, (s.p i).tk, (s.p i).ch⟩ := by unfold bnew; rw [if_neg (by omega), if_pos h0, if_neg (by omega), if_pos hm]
              simp -dsimp only [Fa.F9, e5, e6, e7, rdI_of hc, hc, rdSA_of o0, rdSN_of o0, rdSC_of o0, o0, Nat.zero_add, Nat.mul_one, Int.toNat_natCast, rdSA_of q1, rdSN_of q1, rdSC_of q1, q1, rdSA_of q2, rdSN_of q2, rdSC_of q2, q2, rdSA_of q3, rdSN_of q3, rdSC_of q3, q3, rdSA_of q4, rdSN_of q4, rdSC_of q4, q4, rdI_of c0, c0, rdI_of c1, c1, rdB_of c2, c2, rdI_of c3, c3, rdI_of c4, c4, t0, t1, t2, t3, t4, VC.frozen_set, Option.isSome_some, oth n5, oth n6, oth n7, oth n8, oth n9, oth n10, oth n11, oth n12, oth n13, oth n14, oth n15, oth n16, oth n17, oth n18, oth n19, oth n20, oth n21, oth n22, oth n23, oth n24, oth n25, oth n26, oth n27, oth n28, oth n29, rdI_of d1, d1, rdB_of d2, d2, e8, e9, h0', ii, r1, r2, k0, fk, fk1, fm1, z0, z1, z2, z3, z4, y0, y1, y2, y3, y4, VC.Now, VC.vc, VC.lib, VC.regQ, VC.loopK, VC.reg, VC.opP, VC.pv, VC.thenF, VC.blkF, VC.retF, VC.resV, VC.oneV, VC.evo, VC.bin, VC.binI, VC.cmpI, VC.arithI, VC.ldv, VC.slv, VC.pickP, VC.holds, VC.chainOf, VC.look, VC.junk, VC.put, VC.eff, VC.callee, VC.pureB, VC.rdK, VC.rdKs, VC.okKs, VC.eqKs, VC.fillL, VC.putL, VC.stW, VC.stOK, VC.mixF, VC.setAll, Nat.reduceAdd, Nat.reduceSub, Nat.reduceMul, if_true, if_false, ↓reduceIte, forall_const, implies_true, reduceCtorEq, ne_eq, Nat.reduceBNe, Nat.reduceBEq, IntKind.signed, Nat.reduceEqDiff, Nat.reduceLeDiff, Nat.reduceLT, eq_self, Int.reduceEq, Int.reduceLT, Int.reduceLE, Int.reduceAdd, Int.reduceSub, VC.regC_nil, VC.regC_cons, VC.regCK_eq, VC.callQ, VC.tailQ, VC.goCall, VC.chStep]
              intro u1
              refine WP_held 11 (fun _ => False) (.take 0 (.take 1 (.take 2 (.take 3 (.take 4 (.take 5 (.take 6 (.take 7 (.take 8 (.take 9 (.take 10 (.one 11 .done)))))))))))) Fa.mix (by kernel_rfl) rfl ?_
              have H9 := (RX.K ((RX.M (hS.drewN (u1 + 1)) ((s.p (s.p i).k).tk : Int))) (((s.p i).k : Int) + 1))
              rw [← bin_none (noEnter (n := n) (by omega : (s.p i).at' ≠ 3)) s.inn] at H9
              have hR := RI.step _ e hi H9.rw'.res H9.rf (by simp [h0]) (by simp [h0]) (by simp [h0]) (by simp [h0]) (by simp [h0])
              rw [← hbs] at hR
              simp -dsimp only [VC.heldF_done, VC.heldF_last, VC.planF_done, VC.planF_take, VC.planF_one, VC.planF_two, VC.planK_eq, VC.heldF_take, VC.heldF_one, VC.heldK_eq, VC.okRd, Fa.F9, e5, e6, e7, rdI_of hc, hc, rdSA_of o0, rdSN_of o0, rdSC_of o0, o0, Nat.zero_add, Nat.mul_one, Int.toNat_natCast, rdSA_of q1, rdSN_of q1, rdSC_of q1, q1, rdSA_of q2, rdSN_of q2, rdSC_of q2, q2, rdSA_of q3, rdSN_of q3, rdSC_of q3, q3, rdSA_of q4, rdSN_of q4, rdSC_of q4, q4, rdI_of c0, c0, rdI_of c1, c1, rdB_of c2, c2, rdI_of c3, c3, rdI_of c4, c4, t0, t1, t2, t3, t4, VC.frozen_set, Option.isSome_some, oth n5, oth n6, oth n7, oth n8, oth n9, oth n10, oth n11, oth n12, oth n13, oth n14, oth n15, oth n16, oth n17, oth n18, oth n19, oth n20, oth n21, oth n22, oth n23, oth n24, oth n25, oth n26, oth n27, oth n28, oth n29, rdI_of d1, d1, rdB_of d2, d2, e8, e9, h0', ii, r1, r2, k0, fk, fk1, fm1, z0, z1, z2, z3, z4, y0, y1, y2, y3, y4, VC.Now, VC.vc, VC.lib, VC.regQ, VC.loopK, VC.reg, VC.opP, VC.pv, VC.thenF, VC.blkF, VC.retF, VC.resV, VC.oneV, VC.evo, VC.bin, VC.binI, VC.cmpI, VC.arithI, VC.ldv, VC.slv, VC.pickP, VC.holds, VC.chainOf, VC.look, VC.junk, VC.put, VC.eff, VC.callee, VC.pureB, VC.rdK, VC.rdKs, VC.okKs, VC.eqKs, VC.fillL, VC.putL, VC.stW, VC.stOK, VC.mixF, VC.setAll, Nat.reduceAdd, Nat.reduceSub, Nat.reduceMul, if_true, if_false, ↓reduceIte, forall_const, implies_true, reduceCtorEq, ne_eq, Nat.reduceBNe, Nat.reduceBEq, IntKind.signed, Nat.reduceEqDiff, Nat.reduceLeDiff, Nat.reduceLT, eq_self, Int.reduceEq, Int.reduceLT, Int.reduceLE, Int.reduceAdd, Int.reduceSub, VC.regC_nil, VC.regC_cons, VC.regCK_eq, VC.callQ, VC.tailQ, VC.goCall, VC.chStep]
              exact ⟨SAME.intro (by kernel_rfl), m - 1, by omega, k + 1, _, _, by omega, rfl, H9.rw'.bel, hR⟩
            · have e9 : (((s.p i).m : Int) < ((s.p (s.p i).k).tk : Int)) = False := eq_false (by omega)
              have e : bnew n i s.p = ⟨1, (s.p i).k + 1, (s.p i).m, (s.p i).tk, (s.p i).ch⟩ := by unfold bnew; rw [if_neg (by omega), if_pos h0, if_neg (by omega), if_neg hm]
              simp -dsimp only [Fa.F9, e5, e6, e7, rdI_of hc, hc, rdSA_of o0, rdSN_of o0, rdSC_of o0, o0, Nat.zero_add, Nat.mul_one, Int.toNat_natCast, rdSA_of q1, rdSN_of q1, rdSC_of q1, q1, rdSA_of q2, rdSN_of q2, rdSC_of q2, q2, rdSA_of q3, rdSN_of q3, rdSC_of q3, q3, rdSA_of q4, rdSN_of q4, rdSC_of q4, q4, rdI_of c0, c0, rdI_of c1, c1, rdB_of c2, c2, rdI_of c3, c3, rdI_of c4, c4, t0, t1, t2, t3, t4, VC.frozen_set, Option.isSome_some, oth n5, oth n6, oth n7, oth n8, oth n9, oth n10, oth n11, oth n12, oth n13, oth n14, oth n15, oth n16, oth n17, oth n18, oth n19, oth n20, oth n21, oth n22, oth n23, oth n24, oth n25, oth n26, oth n27, oth n28, oth n29, rdI_of d1, d1, rdB_of d2, d2, e8, e9, h0', ii, r1, r2, k0, fk, fk1, fm1, z0, z1, z2, z3, z4, y0, y1, y2, y3, y4, VC.Now, VC.vc, VC.lib, VC.regQ, VC.loopK, VC.reg, VC.opP, VC.pv, VC.thenF, VC.blkF, VC.retF, VC.resV, VC.oneV, VC.evo, VC.bin, VC.binI, VC.cmpI, VC.arithI, VC.ldv, VC.slv, VC.pickP, VC.holds, VC.chainOf, VC.look, VC.junk, VC.put, VC.eff, VC.callee, VC.pureB, VC.rdK, VC.rdKs, VC.okKs, VC.eqKs, VC.fillL, VC.putL, VC.stW, VC.stOK, VC.mixF, VC.setAll, Nat.reduceAdd, Nat.reduceSub, Nat.reduceMul, if_true, if_false, ↓reduceIte, forall_const, implies_true, reduceCtorEq, ne_eq, Nat.reduceBNe, Nat.reduceBEq, IntKind.signed, Nat.reduceEqDiff, Nat.reduceLeDiff, Nat.reduceLT, eq_self, Int.reduceEq, Int.reduceLT, Int.reduceLE, Int.reduceAdd, Int.reduceSub, VC.regC_nil, VC.regC_cons, VC.regCK_eq, VC.callQ, VC.tailQ, VC.goCall, VC.chStep]
              intro u1
              have H9 := (RX.K (hS.drewN u1) (((s.p i).k : Int) + 1))
              rw [← bin_none (noEnter (n := n) (by omega : (s.p i).at' ≠ 3)) s.inn] at H9
              have hR := RI.step _ e hi H9.rw'.res H9.rf (by simp [h0]) (by simp [h0]) (by simp [h0]) (by simp [h0]) (by simp [h0])
              rw [← hbs] at hR
              exact ⟨SAME.intro (by kernel_rfl), m - 1, by omega, k + 1, _, _, by omega, rfl, H9.rw'.bel, hR⟩
          · have e8 : (((s.p i).k : Int) < n) = False := eq_false (by omega)
            have e : bnew n i s.p = ⟨2, (s.p i).k, (s.p i).m, (s.p i).m + 1, (s.p i).ch⟩ := by unfold bnew; rw [if_neg (by omega), if_pos h0, if_pos (by omega)]
            simp -dsimp only [Fa.F9, e5, e6, e7, rdI_of hc, hc, rdSA_of o0, rdSN_of o0, rdSC_of o0, o0, Nat.zero_add, Nat.mul_one, Int.toNat_natCast, rdSA_of q1, rdSN_of q1, rdSC_of q1, q1, rdSA_of q2, rdSN_of q2, rdSC_of q2, q2, rdSA_of q3, rdSN_of q3, rdSC_of q3, q3, rdSA_of q4, rdSN_of q4, rdSC_of q4, q4, rdI_of c0, c0, rdI_of c1, c1, rdB_of c2, c2, rdI_of c3, c3, rdI_of c4, c4, t0, t1, t2, t3, t4, VC.frozen_set, Option.isSome_some, oth n5, oth n6, oth n7, oth n8, oth n9, oth n10, oth n11, oth n12, oth n13, oth n14, oth n15, oth n16, oth n17, oth n18, oth n19, oth n20, oth n21, oth n22, oth n23, oth n24, oth n25, oth n26, oth n27, oth n28, oth n29, e8, h0', ii, r1, r2, k0, fk, fk1, fm1, z0, z1, z2, z3, z4, y0, y1, y2, y3, y4, VC.Now, VC.vc, VC.lib, VC.regQ, VC.loopK, VC.reg, VC.opP, VC.pv, VC.thenF, VC.blkF, VC.retF, VC.resV, VC.oneV, VC.evo, VC.bin, VC.binI, VC.cmpI, VC.arithI, VC.ldv, VC.slv, VC.pickP, VC.holds, VC.chainOf, VC.look, VC.junk, VC.put, VC.eff, VC.callee, VC.pureB, VC.rdK, VC.rdKs, VC.okKs, VC.eqKs, VC.fillL, VC.putL, VC.stW, VC.stOK, VC.mixF, VC.setAll, Nat.reduceAdd, Nat.reduceSub, Nat.reduceMul, if_true, if_false, ↓reduceIte, forall_const, implies_true, reduceCtorEq, ne_eq, Nat.reduceBNe, Nat.reduceBEq, IntKind.signed, Nat.reduceEqDiff, Nat.reduceLeDiff, Nat.reduceLT, eq_self, Int.reduceEq, Int.reduceLT, Int.reduceLE, Int.reduceAdd, Int.reduceSub, VC.regC_nil, VC.regC_cons, VC.regCK_eq, VC.callQ, VC.tailQ, VC.goCall, VC.chStep]
            refine WP_held 9 (fun _ => False) (.take 0 (.take 1 (.take 2 (.take 3 (.take 4 (.take 5 (.take 6 (.take 7 (.take 8 (.one 9 .done)))))))))) Fa.mix (by kernel_rfl) rfl ?_
            have H9 := (RX.A ((RX.T (hS.drewN 1) (((s.p i).m : Int) + 1))) 2)
            rw [← bin_none (noEnter (n := n) (by omega : (s.p i).at' ≠ 3)) s.inn] at H9
            have hR := RI.step _ e hi H9.rw'.res H9.rf (by simp [h0]) (by simp [h0]) (by simp [h0]) (by simp [h0]) (by simp [h0])
            rw [← hbs] at hR
            simp -dsimp only [VC.heldF_done, VC.heldF_last, VC.planF_done, VC.planF_take, VC.planF_one, VC.planF_two, VC.planK_eq, VC.heldF_take, VC.heldF_one, VC.heldK_eq, VC.okRd, Fa.F9, e5, e6, e7, rdI_of hc, hc, rdSA_of o0, rdSN_of o0, rdSC_of o0, o0, Nat.zero_add, Nat.mul_one, Int.toNat_natCast, rdSA_of q1, rdSN_of q1, rdSC_of q1, q1, rdSA_of q2, rdSN_of q2, rdSC_of q2, q2, rdSA_of q3, rdSN_of q3, rdSC_of q3, q3, rdSA_of q4, rdSN_of q4, rdSC_of q4, q4, rdI_of c0, c0, rdI_of c1, c1, rdB_of c2, c2, rdI_of c3, c3, rdI_of c4, c4, t0, t1, t2, t3, t4, VC.frozen_set, Option.isSome_some, oth n5, oth n6, oth n7, oth n8, oth n9, oth n10, oth n11, oth n12, oth n13, oth n14, oth n15, oth n16, oth n17, oth n18, oth n19, oth n20, oth n21, oth n22, oth n23, oth n24, oth n25, oth n26, oth n27, oth n28, oth n29, e8, h0', ii, r1, r2, k0, fk, fk1, fm1, z0, z1, z2, z3, z4, y0, y1, y2, y3, y4, VC.Now, VC.vc, VC.lib, VC.regQ, VC.loopK, VC.reg, VC.opP, VC.pv, VC.thenF, VC.blkF, VC.retF, VC.resV, VC.oneV, VC.evo, VC.bin, VC.binI, VC.cmpI, VC.arithI, VC.ldv, VC.slv, VC.pickP, VC.holds, VC.chainOf, VC.look, VC.junk, VC.put, VC.eff, VC.callee, VC.pureB, VC.rdK, VC.rdKs, VC.okKs, VC.eqKs, VC.fillL, VC.putL, VC.stW, VC.stOK, VC.mixF, VC.setAll, Nat.reduceAdd, Nat.reduceSub, Nat.reduceMul, if_true, if_false, ↓reduceIte, forall_const, implies_true, reduceCtorEq, ne_eq, Nat.reduceBNe, Nat.reduceBEq, IntKind.signed, Nat.reduceEqDiff, Nat.reduceLeDiff, Nat.reduceLT, eq_self, Int.reduceEq, Int.reduceLT, Int.reduceLE, Int.reduceAdd, Int.reduceSub, VC.regC_nil, VC.regC_cons, VC.regCK_eq, VC.callQ, VC.tailQ, VC.goCall, VC.chStep]
            exact ⟨SAME.intro (by kernel_rfl), m - 1, by omega, k + 1, _, _, by omega, rfl, H9.rw'.bel, hR⟩
        · have h0' : ((s.p i).at' : Int) = 2 := by omega
          have e : bnew n i s.p = ⟨3, 0, (s.p i).m, (s.p i).tk, false⟩ := by unfold bnew; rw [if_neg (by omega), if_neg (by omega), if_pos h0]
          have H9 := (RX.A ((RX.K ((RX.H' (hS) false)) 0)) 3)
          rw [← bin_none (noEnter (n := n) (by omega : (s.p i).at' ≠ 3)) s.inn] at H9
          have hR := RI.step _ e hi H9.rw'.res H9.rf (by simp [h0]) (by simp [h0]) (by simp [h0]) (by simp [h0]) (by simp [h0])
          rw [← hbs] at hR
          simp -dsimp only [Fa.F9, e5, e6, e7, rdI_of hc, hc, rdSA_of o0, rdSN_of o0, rdSC_of o0, o0, Nat.zero_add, Nat.mul_one, Int.toNat_natCast, rdSA_of q1, rdSN_of q1, rdSC_of q1, q1, rdSA_of q2, rdSN_of q2, rdSC_of q2, q2, rdSA_of q3, rdSN_of q3, rdSC_of q3, q3, rdSA_of q4, rdSN_of q4, rdSC_of q4, q4, rdI_of c0, c0, rdI_of c1, c1, rdB_of c2, c2, rdI_of c3, c3, rdI_of c4, c4, t0, t1, t2, t3, t4, VC.frozen_set, Option.isSome_some, oth n5, oth n6, oth n7, oth n8, oth n9, oth n10, oth n11, oth n12, oth n13, oth n14, oth n15, oth n16, oth n17, oth n18, oth n19, oth n20, oth n21, oth n22, oth n23, oth n24, oth n25, oth n26, oth n27, oth n28, oth n29, ii, r1, r2, k0, fk, fk1, fm1, z0, z1, z2, z3, z4, y0, y1, y2, y3, y4, h0', VC.Now, VC.vc, VC.lib, VC.regQ, VC.loopK, VC.reg, VC.opP, VC.pv, VC.thenF, VC.blkF, VC.retF, VC.resV, VC.oneV, VC.evo, VC.bin, VC.binI, VC.cmpI, VC.arithI, VC.ldv, VC.slv, VC.pickP, VC.holds, VC.chainOf, VC.look, VC.junk, VC.put, VC.eff, VC.callee, VC.pureB, VC.rdK, VC.rdKs, VC.okKs, VC.eqKs, VC.fillL, VC.putL, VC.stW, VC.stOK, VC.mixF, VC.setAll, Nat.reduceAdd, Nat.reduceSub, Nat.reduceMul, if_true, if_false, ↓reduceIte, forall_const, implies_true, reduceCtorEq, ne_eq, Nat.reduceBNe, Nat.reduceBEq, IntKind.signed, Nat.reduceEqDiff, Nat.reduceLeDiff, Nat.reduceLT, eq_self, Int.reduceEq, Int.reduceLT, Int.reduceLE, Int.reduceAdd, Int.reduceSub, VC.regC_nil, VC.regC_cons, VC.regCK_eq, VC.callQ, VC.tailQ, VC.goCall, VC.chStep]
          exact ⟨SAME.intro (by kernel_rfl), m - 1, by omega, k + 1, _, _, by omega, rfl, H9.rw'.bel, hR⟩
        · rename_i e5x rgt
          revert n c l w wa g w1 ga gt gh ob w2 w3 w4 gk gm m u wx k Ac cc Av cv b o s i uu w5 A5 c5
          exact HH.1
        · rename_i e5x rgt
          revert n c l w wa g w1 ga gt gh ob w2 w3 w4 gk gm m u wx k Ac cc Av cv b o s i uu w5 A5 c5
          exact HH.2
        · have h0' : ((s.p i).at' : Int) = 5 := by omega
          have e : bnew n i s.p = ⟨0, (s.p i).k, (s.p i).m, 0, (s.p i).ch⟩ := by unfold bnew; rw [if_neg (by omega), if_neg (by omega), if_neg (by omega), if_neg (by omega), if_neg (by omega)]
          have H9 := (RX.A ((RX.T (hS) 0)) 0)
          rw [← bin_none (noEnter (n := n) (by omega : (s.p i).at' ≠ 3)) s.inn] at H9
          have hR := RI.step _ e hi H9.rw'.res H9.rf (by simp [h0]) (by simp [h0]) (by simp [h0]) (by simp [h0]) (by simp [h0])
          rw [← hbs] at hR
          simp -dsimp only [Fa.F9, e5, e6, e7, rdI_of hc, hc, rdSA_of o0, rdSN_of o0, rdSC_of o0, o0, Nat.zero_add, Nat.mul_one, Int.toNat_natCast, rdSA_of q1, rdSN_of q1, rdSC_of q1, q1, rdSA_of q2, rdSN_of q2, rdSC_of q2, q2, rdSA_of q3, rdSN_of q3, rdSC_of q3, q3, rdSA_of q4, rdSN_of q4, rdSC_of q4, q4, rdI_of c0, c0, rdI_of c1, c1, rdB_of c2, c2, rdI_of c3, c3, rdI_of c4, c4, t0, t1, t2, t3, t4, VC.frozen_set, Option.isSome_some, oth n5, oth n6, oth n7, oth n8, oth n9, oth n10, oth n11, oth n12, oth n13, oth n14, oth n15, oth n16, oth n17, oth n18, oth n19, oth n20, oth n21, oth n22, oth n23, oth n24, oth n25, oth n26, oth n27, oth n28, oth n29, ii, r1, r2, k0, fk, fk1, fm1, z0, z1, z2, z3, z4, y0, y1, y2, y3, y4, h0', VC.Now, VC.vc, VC.lib, VC.regQ, VC.loopK, VC.reg, VC.opP, VC.pv, VC.thenF, VC.blkF, VC.retF, VC.resV, VC.oneV, VC.evo, VC.bin, VC.binI, VC.cmpI, VC.arithI, VC.ldv, VC.slv, VC.pickP, VC.holds, VC.chainOf, VC.look, VC.junk, VC.put, VC.eff, VC.callee, VC.pureB, VC.rdK, VC.rdKs, VC.okKs, VC.eqKs, VC.fillL, VC.putL, VC.stW, VC.stOK, VC.mixF, VC.setAll, Nat.reduceAdd, Nat.reduceSub, Nat.reduceMul, if_true, if_false, ↓reduceIte, forall_const, implies_true, reduceCtorEq, ne_eq, Nat.reduceBNe, Nat.reduceBEq, IntKind.signed, Nat.reduceEqDiff, Nat.reduceLeDiff, Nat.reduceLT, eq_self, Int.reduceEq, Int.reduceLT, Int.reduceLE, Int.reduceAdd, Int.reduceSub, VC.regC_nil, VC.regC_cons, VC.regCK_eq, VC.callQ, VC.tailQ, VC.goCall, VC.chStep]
          exact ⟨SAME.intro (by kernel_rfl), m - 1, by omega, k + 1, _, _, by omega, rfl, H9.rw'.bel, hR⟩
      · have hbe : bstep n x s = ⟨s.p, s.inn, s.codes ++ [2]⟩ := by unfold bstep; rw [if_neg hin]
        have fin : ∀ (v5 : Value) w5, OwnK w5 (w.heap.size + 1) 27 1 (s.codes.length + 1) v5 (ints s.codes ++ [.int .i64 2]) → wx.grownBy w5 (Value.slice Ac s.codes.length cc).ownBlock → Stays wx (.slice Ac s.codes.length cc) v5 →
            ((w5.cell? ⟨ob, 0, none⟩).isSome = true ∧ w5.frozen? ⟨ob, 0, none⟩ = false) ∧ Below w.heap.size w (w5.setCell ⟨ob, 0, none⟩ v5) ∧ RI w.heap.size ob ga gt gh gk gm n v5 (.slice Av s.inn.length cv) (bst n (fun i => l.getD i 0) (k + 1)) (w5.setCell ⟨ob, 0, none⟩ v5) := fun v5 w5 ho5 hg5 hst5 => by
          have hRW := grow _ _ _ ho5 hg5
          obtain ⟨r1, r2, r3⟩ := hRI.rf.code ho5 hg5 hst5
          exact ⟨⟨r1, r2⟩, hRW.bel, by rw [hbs, hbe]; exact ⟨hRW.res, r3⟩⟩
        by_cases hx0 : x < 0
        · have e7 : (x < 0) = True := eq_true hx0
          simp -dsimp only [Fa.F9, e5, e7, rdI_of hc, hc, rdSA_of o0, rdSN_of o0, rdSC_of o0, o0, Nat.zero_add, Nat.mul_one, Int.toNat_natCast, VC.Now, VC.vc, VC.lib, VC.regQ, VC.loopK, VC.reg, VC.opP, VC.pv, VC.thenF, VC.blkF, VC.retF, VC.resV, VC.oneV, VC.evo, VC.bin, VC.binI, VC.cmpI, VC.arithI, VC.ldv, VC.slv, VC.pickP, VC.holds, VC.chainOf, VC.look, VC.junk, VC.put, VC.eff, VC.callee, VC.pureB, VC.rdK, VC.rdKs, VC.okKs, VC.eqKs, VC.fillL, VC.putL, VC.stW, VC.stOK, VC.mixF, VC.setAll, Nat.reduceAdd, Nat.reduceSub, Nat.reduceMul, if_true, if_false, ↓reduceIte, forall_const, implies_true, reduceCtorEq, ne_eq, Nat.reduceBNe, Nat.reduceBEq, IntKind.signed, Nat.reduceEqDiff, Nat.reduceLeDiff, Nat.reduceLT, eq_self, Int.reduceEq, Int.reduceLT, Int.reduceLE, Int.reduceAdd, Int.reduceSub, VC.regC_nil, VC.regC_cons, VC.regCK_eq, VC.callQ, VC.tailQ, VC.goCall, VC.chStep]
          refine ⟨by omega, fun uu => ?_⟩
          refine OPW_appK rfl Fa.apI23 rfl rfl rfl (by simp [Value.oneCell']) hRI.o0 (Nat.le_of_lt (Nat.lt_of_le_of_lt l1 (hRI.rf.o2.lt rfl).2)) (by omega) (by decide) fun v5 w5 ho5 hg5 hst5 => ?_
          obtain ⟨A5, c5, rfl, _⟩ := id ho5
          rw [VC.Now, VC.seqK_eq]
          obtain ⟨r1, r2, r3⟩ := fin _ _ ho5 hg5 hst5
          simp -dsimp only [Fa.F9, e5, e7, rdI_of hc, hc, rdSA_of o0, rdSN_of o0, rdSC_of o0, o0, Nat.zero_add, Nat.mul_one, Int.toNat_natCast, VC.Now, VC.vc, VC.lib, VC.regQ, VC.loopK, VC.reg, VC.opP, VC.pv, VC.thenF, VC.blkF, VC.retF, VC.resV, VC.oneV, VC.evo, VC.bin, VC.binI, VC.cmpI, VC.arithI, VC.ldv, VC.slv, VC.pickP, VC.holds, VC.chainOf, VC.look, VC.junk, VC.put, VC.eff, VC.callee, VC.pureB, VC.rdK, VC.rdKs, VC.okKs, VC.eqKs, VC.fillL, VC.putL, VC.stW, VC.stOK, VC.mixF, VC.setAll, Nat.reduceAdd, Nat.reduceSub, Nat.reduceMul, if_true, if_false, ↓reduceIte, forall_const, implies_true, reduceCtorEq, ne_eq, Nat.reduceBNe, Nat.reduceBEq, IntKind.signed, Nat.reduceEqDiff, Nat.reduceLeDiff, Nat.reduceLT, eq_self, Int.reduceEq, Int.reduceLT, Int.reduceLE, Int.reduceAdd, Int.reduceSub, VC.regC_nil, VC.regC_cons, VC.regCK_eq, VC.callQ, VC.tailQ, VC.goCall, VC.chStep]
          exact ⟨r1, fits_i64_nat (by omega), SAME.intro (by kernel_rfl), m - 1, by omega, k + 1, _, _, by omega, rfl, r2, r3⟩
        · have e7 : (x < 0) = False := eq_false hx0
          have e8 : ((n : Int) ≤ x) = True := eq_true (by omega)
          simp -dsimp only [Fa.F9, e5, e7, e8, rdI_of hc, hc, rdSA_of o0, rdSN_of o0, rdSC_of o0, o0, Nat.zero_add, Nat.mul_one, Int.toNat_natCast, VC.Now, VC.vc, VC.lib, VC.regQ, VC.loopK, VC.reg, VC.opP, VC.pv, VC.thenF, VC.blkF, VC.retF, VC.resV, VC.oneV, VC.evo, VC.bin, VC.binI, VC.cmpI, VC.arithI, VC.ldv, VC.slv, VC.pickP, VC.holds, VC.chainOf, VC.look, VC.junk, VC.put, VC.eff, VC.callee, VC.pureB, VC.rdK, VC.rdKs, VC.okKs, VC.eqKs, VC.fillL, VC.putL, VC.stW, VC.stOK, VC.mixF, VC.setAll, Nat.reduceAdd, Nat.reduceSub, Nat.reduceMul, if_true, if_false, ↓reduceIte, forall_const, implies_true, reduceCtorEq, ne_eq, Nat.reduceBNe, Nat.reduceBEq, IntKind.signed, Nat.reduceEqDiff, Nat.reduceLeDiff, Nat.reduceLT, eq_self, Int.reduceEq, Int.reduceLT, Int.reduceLE, Int.reduceAdd, Int.reduceSub, VC.regC_nil, VC.regC_cons, VC.regCK_eq, VC.callQ, VC.tailQ, VC.goCall, VC.chStep]
          refine ⟨by omega, fun uu => ?_⟩
          refine OPW_appK rfl Fa.apI23 rfl rfl rfl (by simp [Value.oneCell']) hRI.o0 (Nat.le_of_lt (Nat.lt_of_le_of_lt l1 (hRI.rf.o2.lt rfl).2)) (by omega) (by decide) fun v5 w5 ho5 hg5 hst5 => ?_
          obtain ⟨A5, c5, rfl, _⟩ := id ho5
          rw [VC.Now, VC.seqK_eq]
          obtain ⟨r1, r2, r3⟩ := fin _ _ ho5 hg5 hst5
          simp -dsimp only [Fa.F9, e5, e7, e8, rdI_of hc, hc, rdSA_of o0, rdSN_of o0, rdSC_of o0, o0, Nat.zero_add, Nat.mul_one, Int.toNat_natCast, VC.Now, VC.vc, VC.lib, VC.regQ, VC.loopK, VC.reg, VC.opP, VC.pv, VC.thenF, VC.blkF, VC.retF, VC.resV, VC.oneV, VC.evo, VC.bin, VC.binI, VC.cmpI, VC.arithI, VC.ldv, VC.slv, VC.pickP, VC.holds, VC.chainOf, VC.look, VC.junk, VC.put, VC.eff, VC.callee, VC.pureB, VC.rdK, VC.rdKs, VC.okKs, VC.eqKs, VC.fillL, VC.putL, VC.stW, VC.stOK, VC.mixF, VC.setAll, Nat.reduceAdd, Nat.reduceSub, Nat.reduceMul, if_true, if_false, ↓reduceIte, forall_const, implies_true, reduceCtorEq, ne_eq, Nat.reduceBNe, Nat.reduceBEq, IntKind.signed, Nat.reduceEqDiff, Nat.reduceLeDiff, Nat.reduceLT, eq_self, Int.reduceEq, Int.reduceLT, Int.reduceLE, Int.reduceAdd, Int.reduceSub, VC.regC_nil, VC.regC_cons, VC.regCK_eq, VC.callQ, VC.tailQ, VC.goCall, VC.chStep]
          exact ⟨r1, fits_i64_nat (by omega), SAME.intro (by kernel_rfl), m - 1, by omega, k + 1, _, _, by omega, rfl, r2, r3⟩
    · obtain rfl : k = l.length := by omega
      have e5 : ((l.length : Int) < l.length) = False := eq_false (by omega)
      generalize bst n (fun i => l.getD i 0) l.length = s at *
      obtain ⟨ok2, hb2⟩ := hRI.res.stAll (vs := [.slice Ac s.codes.length cc, sl ga n, sl gt n, sl gh n, .slice Av s.inn.length cv]) rfl (by intro x hx; simp at hx; rcases hx with rfl | rfl | rfl | rfl | rfl <;> rfl)
      have s0 := hb2.at (i := 0) rfl
      have s1 := hb2.at (i := 1) rfl
      have s2 := hb2.at (i := 2) rfl
      have s3 := hb2.at (i := 3) rfl
      have s4 := hb2.at (i := 4) rfl
      have hag : Agree (fun j => j = w.heap.size) wx (stW wx ⟨w.heap.size, 0, none⟩ 0 [.slice Ac s.codes.length cc, sl ga n, sl gt n, sl gh n, .slice Av s.inn.length cv]) := stW_agree (X := fun j => j = w.heap.size) rfl _ _ _
      have hF := Fam.agree hRI.rf hag fun j _ hj => by omega
      have eI : ∀ f : Nat → Nat, ints ((List.range n).map fun i => (f i : Int)) = mapR n (Value.int .i64) fun i => (f i : Int) := fun f => by simp [mapR, Function.comp_def]
      have eB : bools (chL s.p n) = mapR n Value.bool fun i => (s.p i).ch := by simp [chL, mapR, Function.comp_def]
      have a0 : OwnK _ _ 27 1 s.codes.length (.slice Ac s.codes.length cc) (ints s.codes) := hF.1 0 _ rfl
      have a1 := RFm.o2 hF
      have a2 := RFm.o3 hF
      have a3 := RFm.o4 hF
      have a4 := RFm.oi hF
      rw [← eI fun i => (s.p i).at'] at a1
      rw [← eI fun i => (s.p i).tk] at a2
      rw [← eB] at a3
      simp -dsimp only [Fa.F9, e5, rdSA_of o0, rdSN_of o0, rdSC_of o0, o0, rdSA_of o1, rdSN_of o1, rdSC_of o1, o1, rdSA_of o2, rdSN_of o2, rdSC_of o2, o2, rdSA_of o3, rdSN_of o3, rdSC_of o3, o3, rdSA_of o4, rdSN_of o4, rdSC_of o4, o4, rdSA_of s0, rdSN_of s0, rdSC_of s0, s0, rdSA_of s1, rdSN_of s1, rdSC_of s1, s1, rdSA_of s2, rdSN_of s2, rdSC_of s2, s2, rdSA_of s3, rdSN_of s3, rdSC_of s3, s3, rdSA_of s4, rdSN_of s4, rdSC_of s4, s4, VC.Now, VC.vc, VC.lib, VC.regQ, VC.loopK, VC.reg, VC.opP, VC.pv, VC.thenF, VC.blkF, VC.retF, VC.resV, VC.oneV, VC.evo, VC.bin, VC.binI, VC.cmpI, VC.arithI, VC.ldv, VC.slv, VC.pickP, VC.holds, VC.chainOf, VC.look, VC.junk, VC.put, VC.eff, VC.callee, VC.pureB, VC.rdK, VC.rdKs, VC.okKs, VC.eqKs, VC.fillL, VC.putL, VC.mixF, VC.setAll, Nat.reduceAdd, Nat.reduceSub, Nat.reduceMul, if_true, if_false, ↓reduceIte, forall_const, implies_true, reduceCtorEq, ne_eq, Nat.reduceBNe, Nat.reduceBEq, IntKind.signed, Nat.reduceEqDiff, Nat.reduceLeDiff, Nat.reduceLT, eq_self, Int.reduceEq, Int.reduceLT, Int.reduceLE, Int.reduceAdd, Int.reduceSub, VC.regC_nil, VC.regC_cons, VC.regCK_eq, VC.callQ, VC.tailQ, VC.goCall, VC.chStep]
      exact ⟨ok2, _, rfl, ⟨_, _, _, _, _, rfl, a0, a1, a2, a3, a4⟩, hag.to_below hBx hBx.size fun j hj => by omega⟩

set_option maxRecDepth 8000 in
set_option maxHeartbeats 40000000 in
theorem ref_four : refBut.1 := by
  unfold refBut
  refine ⟨?_, ?_⟩
  · intro n c l w h1 h4 hl wa hb0 hB0 hz0 g w1 ga gt gh ob e12 e14 e16 e5x e17 hob w2 w3 w4 gk hsz2 gm hsz3 m u wx k hkm hBx Ac cc Av cv o1 o2 o3 l0 l1 l2 l3 l4 l5 hk b o hr hb s hok hinl hco hRI o0 o4 e5 grow i hx hc hbs hin hi e6 e7 uu w5 hg5 A5 c5 ho5 hst5 rgt hRW r1 r2 r3 q0 q1 q2 q3 q4 c0 c1 c2 c3 c4 t0 t1 t2 t3 t4 n0 n1 n2 n3 n4 n5 n6 n7 n8 n9 n10 n11 n12 n13 n14 n15 n16 n17 n18 n19 n20 n21 n22 n23 n24 n25 n26 n27 n28 n29 hS ii a1 a2 a3 a4 a5 k0 fk fk1 fm1 z0 z1 z2 z3 z4 y0 y1 y2 y3 y4 h0
    have h0' : ((s.p i).at' : Int) = 3 := by omega
    by_cases hkn : (s.p i).k = n
    · have e8 : (((s.p i).k : Int) = n) = True := eq_true (by omega)
      have e : bnew n i s.p = ⟨5, (s.p i).k, (s.p i).m, (s.p i).tk, (s.p i).ch⟩ := by unfold bnew; rw [if_neg (by omega), if_neg (by omega), if_neg (by omega), if_pos h0, if_pos hkn]
      have ee : bin' n i s.p = [(i : Int)] := by unfold bin' enters; rw [if_pos h0, if_pos (decide_eq_true hkn)]
      have H8 := RX.A hS 5
      simp -dsimp only [Fa.F9, e5, e6, e7, rdI_of hc, hc, rdSA_of o0, rdSN_of o0, rdSC_of o0, o0, Nat.zero_add, Nat.mul_one, Int.toNat_natCast, rdSA_of q1, rdSN_of q1, rdSC_of q1, q1, rdSA_of q2, rdSN_of q2, rdSC_of q2, q2, rdSA_of q3, rdSN_of q3, rdSC_of q3, q3, rdSA_of q4, rdSN_of q4, rdSC_of q4, q4, rdI_of c0, c0, rdI_of c1, c1, rdB_of c2, c2, rdI_of c3, c3, rdI_of c4, c4, t0, t1, t2, t3, t4, VC.frozen_set, Option.isSome_some, oth n5, oth n6, oth n7, oth n8, oth n9, oth n10, oth n11, oth n12, oth n13, oth n14, oth n15, oth n16, oth n17, oth n18, oth n19, oth n20, oth n21, oth n22, oth n23, oth n24, oth n25, oth n26, oth n27, oth n28, oth n29, e8, h0', ii, r1, r2, k0, fk, fk1, fm1, z0, z1, z2, z3, z4, y0, y1, y2, y3, y4, VC.Now, VC.vc, VC.lib, VC.regQ, VC.loopK, VC.reg, VC.opP, VC.pv, VC.thenF, VC.blkF, VC.retF, VC.resV, VC.oneV, VC.evo, VC.bin, VC.binI, VC.cmpI, VC.arithI, VC.ldv, VC.slv, VC.pickP, VC.holds, VC.chainOf, VC.look, VC.junk, VC.put, VC.eff, VC.callee, VC.pureB, VC.rdK, VC.rdKs, VC.okKs, VC.eqKs, VC.fillL, VC.putL, VC.stW, VC.stOK, VC.mixF, VC.setAll, Nat.reduceAdd, Nat.reduceSub, Nat.reduceMul, if_true, if_false, ↓reduceIte, forall_const, implies_true, reduceCtorEq, ne_eq, Nat.reduceBNe, Nat.reduceBEq, IntKind.signed, Nat.reduceEqDiff, Nat.reduceLeDiff, Nat.reduceLT, eq_self, Int.reduceEq, Int.reduceLT, Int.reduceLE, Int.reduceAdd, Int.reduceSub, VC.regC_nil, VC.regC_cons, VC.regCK_eq, VC.callQ, VC.tailQ, VC.goCall, VC.chStep]
      refine OPW_appK rfl Fa.apI22 rfl rfl rfl (by simp [Value.oneCell']) (RFm.oi H8.rf) (Nat.le_of_lt (Nat.lt_of_le_of_lt l0 (by simpa using z0))) (by omega) (by decide) fun v6 w6 ho6 hg6 hst6 => ?_
      obtain ⟨A6, c6, rfl, _⟩ := id ho6
      rw [VC.Now, VC.seqK_eq]
      obtain ⟨x1, x2, x3⟩ := RFm.more H8.rf ho6 hg6 hst6
      have hW6 := (H8.rw'.grow hg6 (fun b hb => ((RFm.oi H8.rf).lt hb).1)).set (g := ob) (i := 4) (Nat.lt_of_succ_le l0) (.slice A6 (s.inn.length + 1) c6)
      rw [← ee] at x3
      have hR := RI.step _ e hi hW6.res x3 (by simp [h0]) (by simp [h0]) (by simp [h0]) (by simp [h0]) (by simp [h0])
      rw [← hbs] at hR
      simp -dsimp only [Fa.F9, e5, e6, e7, rdI_of hc, hc, rdSA_of o0, rdSN_of o0, rdSC_of o0, o0, Nat.zero_add, Nat.mul_one, Int.toNat_natCast, rdSA_of q1, rdSN_of q1, rdSC_of q1, q1, rdSA_of q2, rdSN_of q2, rdSC_of q2, q2, rdSA_of q3, rdSN_of q3, rdSC_of q3, q3, rdSA_of q4, rdSN_of q4, rdSC_of q4, q4, rdI_of c0, c0, rdI_of c1, c1, rdB_of c2, c2, rdI_of c3, c3, rdI_of c4, c4, t0, t1, t2, t3, t4, VC.frozen_set, Option.isSome_some, oth n5, oth n6, oth n7, oth n8, oth n9, oth n10, oth n11, oth n12, oth n13, oth n14, oth n15, oth n16, oth n17, oth n18, oth n19, oth n20, oth n21, oth n22, oth n23, oth n24, oth n25, oth n26, oth n27, oth n28, oth n29, e8, h0', ii, r1, r2, k0, fk, fk1, fm1, z0, z1, z2, z3, z4, y0, y1, y2, y3, y4, x1, x2, VC.Now, VC.vc, VC.lib, VC.regQ, VC.loopK, VC.reg, VC.opP, VC.pv, VC.thenF, VC.blkF, VC.retF, VC.resV, VC.oneV, VC.evo, VC.bin, VC.binI, VC.cmpI, VC.arithI, VC.ldv, VC.slv, VC.pickP, VC.holds, VC.chainOf, VC.look, VC.junk, VC.put, VC.eff, VC.callee, VC.pureB, VC.rdK, VC.rdKs, VC.okKs, VC.eqKs, VC.fillL, VC.putL, VC.stW, VC.stOK, VC.mixF, VC.setAll, Nat.reduceAdd, Nat.reduceSub, Nat.reduceMul, if_true, if_false, ↓reduceIte, forall_const, implies_true, reduceCtorEq, ne_eq, Nat.reduceBNe, Nat.reduceBEq, IntKind.signed, Nat.reduceEqDiff, Nat.reduceLeDiff, Nat.reduceLT, eq_self, Int.reduceEq, Int.reduceLT, Int.reduceLE, Int.reduceAdd, Int.reduceSub, VC.regC_nil, VC.regC_cons, VC.regCK_eq, VC.callQ, VC.tailQ, VC.goCall, VC.chStep]
      exact ⟨SAME.intro (by kernel_rfl), m - 1, by omega, k + 1, _, _, by omega, rfl, hW6.bel, hR⟩
    · have e8 : (((s.p i).k : Int) = n) = False := eq_false (by omega)
      have hkn' : (s.p i).k < n := by omega
      have e8' : (((s.p i).k : Int) < n) = True := eq_true (by omega)
      obtain ⟨_, d1, d2, _, _⟩ := r3.cells hkn'
      cases hch : (s.p (s.p i).k).ch with
      | false =>
        rw [hch] at d2
        have e : bnew n i s.p = ⟨4, (s.p i).k, (s.p i).m, (s.p i).tk, (s.p i).ch⟩ := by unfold bnew; rw [if_neg (by omega), if_neg (by omega), if_neg (by omega), if_pos h0, if_neg hkn, if_pos hch]
        simp -dsimp only [Fa.F9, e5, e6, e7, rdI_of hc, hc, rdSA_of o0, rdSN_of o0, rdSC_of o0, o0, Nat.zero_add, Nat.mul_one, Int.toNat_natCast, rdSA_of q1, rdSN_of q1, rdSC_of q1, q1, rdSA_of q2, rdSN_of q2, rdSC_of q2, q2, rdSA_of q3, rdSN_of q3, rdSC_of q3, q3, rdSA_of q4, rdSN_of q4, rdSC_of q4, q4, rdI_of c0, c0, rdI_of c1, c1, rdB_of c2, c2, rdI_of c3, c3, rdI_of c4, c4, t0, t1, t2, t3, t4, VC.frozen_set, Option.isSome_some, oth n5, oth n6, oth n7, oth n8, oth n9, oth n10, oth n11, oth n12, oth n13, oth n14, oth n15, oth n16, oth n17, oth n18, oth n19, oth n20, oth n21, oth n22, oth n23, oth n24, oth n25, oth n26, oth n27, oth n28, oth n29, rdI_of d1, d1, rdB_of d2, d2, e8, e8', h0', ii, r1, r2, k0, fk, fk1, fm1, z0, z1, z2, z3, z4, y0, y1, y2, y3, y4, VC.Now, VC.vc, VC.lib, VC.regQ, VC.loopK, VC.reg, VC.opP, VC.pv, VC.thenF, VC.blkF, VC.retF, VC.resV, VC.oneV, VC.evo, VC.bin, VC.binI, VC.cmpI, VC.arithI, VC.ldv, VC.slv, VC.pickP, VC.holds, VC.chainOf, VC.look, VC.junk, VC.put, VC.eff, VC.callee, VC.pureB, VC.rdK, VC.rdKs, VC.okKs, VC.eqKs, VC.fillL, VC.putL, VC.stW, VC.stOK, VC.mixF, VC.setAll, Nat.reduceAdd, Nat.reduceSub, Nat.reduceMul, if_true, if_false, ↓reduceIte, forall_const, implies_true, reduceCtorEq, ne_eq, Nat.reduceBNe, Nat.reduceBEq, IntKind.signed, Nat.reduceEqDiff, Nat.reduceLeDiff, Nat.reduceLT, eq_self, Int.reduceEq, Int.reduceLT, Int.reduceLE, Int.reduceAdd, Int.reduceSub, VC.regC_nil, VC.regC_cons, VC.regCK_eq, VC.callQ, VC.tailQ, VC.goCall, VC.chStep]
        intro u1
        have H9 := (RX.A (hS.drewN u1) 4)
        rw [← bin_none (n := n) (i := i) (P := s.p) (by unfold enters; rw [if_pos h0, decide_eq_false (by omega)]) s.inn] at H9
        have hR := RI.step _ e hi H9.rw'.res H9.rf (by simp [h0]) (by simp [h0]) (by simp [h0]) (by simp [h0]) (by simp [h0])
        rw [← hbs] at hR
        exact ⟨SAME.intro (by kernel_rfl), m - 1, by omega, k + 1, _, _, by omega, rfl, H9.rw'.bel, hR⟩
      | true =>
        rw [hch] at d2
        have e : bnew n i s.p = s.p i := by unfold bnew; rw [if_neg (by omega), if_neg (by omega), if_neg (by omega), if_pos h0, if_neg hkn, if_neg (by rw [hch]; simp)]
        simp -dsimp only [Fa.F9, e5, e6, e7, rdI_of hc, hc, rdSA_of o0, rdSN_of o0, rdSC_of o0, o0, Nat.zero_add, Nat.mul_one, Int.toNat_natCast, rdSA_of q1, rdSN_of q1, rdSC_of q1, q1, rdSA_of q2, rdSN_of q2, rdSC_of q2, q2, rdSA_of q3, rdSN_of q3, rdSC_of q3, q3, rdSA_of q4, rdSN_of q4, rdSC_of q4, q4, rdI_of c0, c0, rdI_of c1, c1, rdB_of c2, c2, rdI_of c3, c3, rdI_of c4, c4, t0, t1, t2, t3, t4, VC.frozen_set, Option.isSome_some, oth n5, oth n6, oth n7, oth n8, oth n9, oth n10, oth n11, oth n12, oth n13, oth n14, oth n15, oth n16, oth n17, oth n18, oth n19, oth n20, oth n21, oth n22, oth n23, oth n24, oth n25, oth n26, oth n27, oth n28, oth n29, rdI_of d1, d1, rdB_of d2, d2, e8, e8', h0', ii, r1, r2, k0, fk, fk1, fm1, z0, z1, z2, z3, z4, y0, y1, y2, y3, y4, VC.Now, VC.vc, VC.lib, VC.regQ, VC.loopK, VC.reg, VC.opP, VC.pv, VC.thenF, VC.blkF, VC.retF, VC.resV, VC.oneV, VC.evo, VC.bin, VC.binI, VC.cmpI, VC.arithI, VC.ldv, VC.slv, VC.pickP, VC.holds, VC.chainOf, VC.look, VC.junk, VC.put, VC.eff, VC.callee, VC.pureB, VC.rdK, VC.rdKs, VC.okKs, VC.eqKs, VC.fillL, VC.putL, VC.stW, VC.stOK, VC.mixF, VC.setAll, Nat.reduceAdd, Nat.reduceSub, Nat.reduceMul, if_true, if_false, ↓reduceIte, forall_const, implies_true, reduceCtorEq, ne_eq, Nat.reduceBNe, Nat.reduceBEq, IntKind.signed, Nat.reduceEqDiff, Nat.reduceLeDiff, Nat.reduceLT, eq_self, Int.reduceEq, Int.reduceLT, Int.reduceLE, Int.reduceAdd, Int.reduceSub, VC.regC_nil, VC.regC_cons, VC.regCK_eq, VC.callQ, VC.tailQ, VC.goCall, VC.chStep]
        intro u1
        have H9 := hS.drewN u1
        rw [← bin_none (n := n) (i := i) (P := s.p) (by unfold enters; rw [if_pos h0, decide_eq_false (by omega)]) s.inn] at H9
        have hR := RI.step _ e hi H9.rw'.res H9.rf (by simp [h0]) (by simp [h0]) (by simp [h0]) (by simp [h0]) (by simp [h0])
        rw [← hbs] at hR
        exact ⟨SAME.intro (by kernel_rfl), m - 1, by omega, k + 1, _, _, by omega, rfl, H9.rw'.bel, hR⟩
  · intro n c l w h1 h4 hl wa hb0 hB0 hz0 g w1 ga gt gh ob e12 e14 e16 e5x e17 hob w2 w3 w4 gk hsz2 gm hsz3 m u wx k hkm hBx Ac cc Av cv o1 o2 o3 l0 l1 l2 l3 l4 l5 hk b o hr hb s hok hinl hco hRI o0 o4 e5 grow i hx hc hbs hin hi e6 e7 uu w5 hg5 A5 c5 ho5 hst5 rgt hRW r1 r2 r3 q0 q1 q2 q3 q4 c0 c1 c2 c3 c4 t0 t1 t2 t3 t4 n0 n1 n2 n3 n4 n5 n6 n7 n8 n9 n10 n11 n12 n13 n14 n15 n16 n17 n18 n19 n20 n21 n22 n23 n24 n25 n26 n27 n28 n29 hS ii a1 a2 a3 a4 a5 k0 fk fk1 fm1 z0 z1 z2 z3 z4 y0 y1 y2 y3 y4 h0
    have h0' : ((s.p i).at' : Int) = 4 := by omega
    have hkn := a3 h0
    have e8' : (((s.p i).k : Int) < n) = True := eq_true (by omega)
    obtain ⟨_, d1, d2, _, _⟩ := r3.cells hkn
    by_cases hz : (s.p (s.p i).k).tk = 0
    · have e9 : (((s.p (s.p i).k).tk : Int) = 0) = True := eq_true (by omega)
      have hy : yields s.p i = false := by unfold yields; rw [if_pos hz]
      have e : bnew n i s.p = ⟨3, (s.p i).k + 1, (s.p i).m, (s.p i).tk, (s.p i).ch⟩ := by unfold bnew; rw [if_neg (by omega), if_neg (by omega), if_neg (by omega), if_neg (by omega), if_pos h0, if_neg (by rw [hy]; simp)]
      simp -dsimp only [Fa.F9, e5, e6, e7, rdI_of hc, hc, rdSA_of o0, rdSN_of o0, rdSC_of o0, o0, Nat.zero_add, Nat.mul_one, Int.toNat_natCast, rdSA_of q1, rdSN_of q1, rdSC_of q1, q1, rdSA_of q2, rdSN_of q2, rdSC_of q2, q2, rdSA_of q3, rdSN_of q3, rdSC_of q3, q3, rdSA_of q4, rdSN_of q4, rdSC_of q4, q4, rdI_of c0, c0, rdI_of c1, c1, rdB_of c2, c2, rdI_of c3, c3, rdI_of c4, c4, t0, t1, t2, t3, t4, VC.frozen_set, Option.isSome_some, oth n5, oth n6, oth n7, oth n8, oth n9, oth n10, oth n11, oth n12, oth n13, oth n14, oth n15, oth n16, oth n17, oth n18, oth n19, oth n20, oth n21, oth n22, oth n23, oth n24, oth n25, oth n26, oth n27, oth n28, oth n29, rdI_of d1, d1, rdB_of d2, d2, e8', e9, h0', ii, r1, r2, k0, fk, fk1, fm1, z0, z1, z2, z3, z4, y0, y1, y2, y3, y4, VC.Now, VC.vc, VC.lib, VC.regQ, VC.loopK, VC.reg, VC.opP, VC.pv, VC.thenF, VC.blkF, VC.retF, VC.resV, VC.oneV, VC.evo, VC.bin, VC.binI, VC.cmpI, VC.arithI, VC.ldv, VC.slv, VC.pickP, VC.holds, VC.chainOf, VC.look, VC.junk, VC.put, VC.eff, VC.callee, VC.pureB, VC.rdK, VC.rdKs, VC.okKs, VC.eqKs, VC.fillL, VC.putL, VC.stW, VC.stOK, VC.mixF, VC.setAll, Nat.reduceAdd, Nat.reduceSub, Nat.reduceMul, if_true, if_false, ↓reduceIte, forall_const, implies_true, reduceCtorEq, ne_eq, Nat.reduceBNe, Nat.reduceBEq, IntKind.signed, Nat.reduceEqDiff, Nat.reduceLeDiff, Nat.reduceLT, eq_self, Int.reduceEq, Int.reduceLT, Int.reduceLE, Int.reduceAdd, Int.reduceSub, VC.regC_nil, VC.regC_cons, VC.regCK_eq, VC.callQ, VC.tailQ, VC.goCall, VC.chStep]
      intro u1
      refine WP_calls Fa.mix (by kernel_rfl) (by kernel_rfl) rfl ?_
      simp -dsimp only [Fa.F9, e5, e6, e7, rdI_of hc, hc, rdSA_of o0, rdSN_of o0, rdSC_of o0, o0, Nat.zero_add, Nat.mul_one, Int.toNat_natCast, rdSA_of q1, rdSN_of q1, rdSC_of q1, q1, rdSA_of q2, rdSN_of q2, rdSC_of q2, q2, rdSA_of q3, rdSN_of q3, rdSC_of q3, q3, rdSA_of q4, rdSN_of q4, rdSC_of q4, q4, rdI_of c0, c0, rdI_of c1, c1, rdB_of c2, c2, rdI_of c3, c3, rdI_of c4, c4, t0, t1, t2, t3, t4, VC.frozen_set, Option.isSome_some, oth n5, oth n6, oth n7, oth n8, oth n9, oth n10, oth n11, oth n12, oth n13, oth n14, oth n15, oth n16, oth n17, oth n18, oth n19, oth n20, oth n21, oth n22, oth n23, oth n24, oth n25, oth n26, oth n27, oth n28, oth n29, rdI_of d1, d1, rdB_of d2, d2, e8', e9, h0', ii, r1, r2, k0, fk, fk1, fm1, z0, z1, z2, z3, z4, y0, y1, y2, y3, y4, VC.Now, VC.vc_skip, VC.vc_ret, VC.vc_exit, VC.vc_block, VC.vc_cond, VC.vc_region, VC.lib, VC.regQ, VC.loopK, VC.reg, VC.opP, VC.pv, VC.thenF, VC.blkF, VC.retF, VC.resV, VC.oneV, VC.evo, VC.bin, VC.binI, VC.cmpI, VC.arithI, VC.ldv, VC.slv, VC.pickP, VC.holds, VC.chainOf, VC.look, VC.junk, VC.put, VC.eff, VC.callee, VC.pureB, VC.rdK, VC.rdKs, VC.okKs, VC.eqKs, VC.fillL, VC.putL, VC.stW, VC.stOK, VC.mixF, VC.setAll, Nat.reduceAdd, Nat.reduceSub, Nat.reduceMul, if_true, if_false, ↓reduceIte, forall_const, implies_true, reduceCtorEq, ne_eq, Nat.reduceBNe, Nat.reduceBEq, IntKind.signed, Nat.reduceEqDiff, Nat.reduceLeDiff, Nat.reduceLT, eq_self, Int.reduceEq, Int.reduceLT, Int.reduceLE, Int.reduceAdd, Int.reduceSub, VC.regC_nil, VC.regC_cons, VC.regCK_eq, VC.callQ, VC.tailQ, VC.goCall, VC.chStep]
      refine CALLQ_of (v := .bool true) (fun h => h.elim) ?_
      simp -dsimp only [Fa.F9, e5, e6, e7, rdI_of hc, hc, rdSA_of o0, rdSN_of o0, rdSC_of o0, o0, Nat.zero_add, Nat.mul_one, Int.toNat_natCast, rdSA_of q1, rdSN_of q1, rdSC_of q1, q1, rdSA_of q2, rdSN_of q2, rdSC_of q2, q2, rdSA_of q3, rdSN_of q3, rdSC_of q3, q3, rdSA_of q4, rdSN_of q4, rdSC_of q4, q4, rdI_of c0, c0, rdI_of c1, c1, rdB_of c2, c2, rdI_of c3, c3, rdI_of c4, c4, t0, t1, t2, t3, t4, VC.frozen_set, Option.isSome_some, oth n5, oth n6, oth n7, oth n8, oth n9, oth n10, oth n11, oth n12, oth n13, oth n14, oth n15, oth n16, oth n17, oth n18, oth n19, oth n20, oth n21, oth n22, oth n23, oth n24, oth n25, oth n26, oth n27, oth n28, oth n29, rdI_of d1, d1, rdB_of d2, d2, e8', e9, h0', ii, r1, r2, k0, fk, fk1, fm1, z0, z1, z2, z3, z4, y0, y1, y2, y3, y4, VC.Now, VC.vc_skip, VC.vc_ret, VC.vc_exit, VC.vc_block, VC.vc_cond, VC.vc_region, VC.lib, VC.regQ, VC.loopK, VC.reg, VC.opP, VC.pv, VC.thenF, VC.blkF, VC.retF, VC.resV, VC.oneV, VC.evo, VC.bin, VC.binI, VC.cmpI, VC.arithI, VC.ldv, VC.slv, VC.pickP, VC.holds, VC.chainOf, VC.look, VC.junk, VC.put, VC.eff, VC.callee, VC.pureB, VC.rdK, VC.rdKs, VC.okKs, VC.eqKs, VC.fillL, VC.putL, VC.stW, VC.stOK, VC.mixF, VC.setAll, Nat.reduceAdd, Nat.reduceSub, Nat.reduceMul, if_true, if_false, ↓reduceIte, forall_const, implies_true, reduceCtorEq, ne_eq, Nat.reduceBNe, Nat.reduceBEq, IntKind.signed, Nat.reduceEqDiff, Nat.reduceLeDiff, Nat.reduceLT, eq_self, Int.reduceEq, Int.reduceLT, Int.reduceLE, Int.reduceAdd, Int.reduceSub, VC.regC_nil, VC.regC_cons, VC.regCK_eq, VC.callQ, VC.tailQ, VC.goCall, VC.chStep]
      intro _ w9 hB9
      have hd := (below_drewN (Below.refl _ (w5.setCell ⟨ob, 0, none⟩ (.slice A5 (s.codes.length + 1) c5))) u1).trans hB9
      have hS9 := hS.below hd
      obtain ⟨_, g1, _, _, _⟩ := RFm.out hS9.rf
      obtain ⟨v0, _, _, v3, _⟩ := RFm.cells hS9.rf hi
      rw [upd_same] at v0 v3
      obtain ⟨p0, _, _, p3, _⟩ := RFm.soft hS9.rf hi
      have H9 := (RX.A ((RX.K (hS9) (((s.p i).k : Int) + 1))) 3)
      rw [← bin_none (noEnter (n := n) (by omega : (s.p i).at' ≠ 3)) s.inn] at H9
      have hR := RI.step _ e hi H9.rw'.res H9.rf (by simp [h0]) (by simp [h0]) (by simp [h0]) (by simp [h0]) (by simp [h0])
      rw [← hbs] at hR
      simp -dsimp only [Fa.F9, e5, e6, e7, rdI_of hc, hc, rdSA_of o0, rdSN_of o0, rdSC_of o0, o0, Nat.zero_add, Nat.mul_one, Int.toNat_natCast, rdSA_of q1, rdSN_of q1, rdSC_of q1, q1, rdSA_of q2, rdSN_of q2, rdSC_of q2, q2, rdSA_of q3, rdSN_of q3, rdSC_of q3, q3, rdSA_of q4, rdSN_of q4, rdSC_of q4, q4, rdI_of c0, c0, rdI_of c1, c1, rdB_of c2, c2, rdI_of c3, c3, rdI_of c4, c4, t0, t1, t2, t3, t4, VC.frozen_set, Option.isSome_some, oth n5, oth n6, oth n7, oth n8, oth n9, oth n10, oth n11, oth n12, oth n13, oth n14, oth n15, oth n16, oth n17, oth n18, oth n19, oth n20, oth n21, oth n22, oth n23, oth n24, oth n25, oth n26, oth n27, oth n28, oth n29, rdI_of d1, d1, rdB_of d2, d2, e8', e9, h0', ii, r1, r2, k0, fk, fk1, fm1, z0, z1, z2, z3, z4, y0, y1, y2, y3, y4, rdSA_of g1, rdSN_of g1, rdSC_of g1, g1, rdI_of v0, v0, rdI_of v3, v3, p0, p3, VC.Now, VC.vc, VC.lib, VC.regQ, VC.loopK, VC.reg, VC.opP, VC.pv, VC.thenF, VC.blkF, VC.retF, VC.resV, VC.oneV, VC.evo, VC.bin, VC.binI, VC.cmpI, VC.arithI, VC.ldv, VC.slv, VC.pickP, VC.holds, VC.chainOf, VC.look, VC.junk, VC.put, VC.eff, VC.callee, VC.pureB, VC.rdK, VC.rdKs, VC.okKs, VC.eqKs, VC.fillL, VC.putL, VC.stW, VC.stOK, VC.mixF, VC.setAll, Nat.reduceAdd, Nat.reduceSub, Nat.reduceMul, if_true, if_false, ↓reduceIte, forall_const, implies_true, reduceCtorEq, ne_eq, Nat.reduceBNe, Nat.reduceBEq, IntKind.signed, Nat.reduceEqDiff, Nat.reduceLeDiff, Nat.reduceLT, eq_self, Int.reduceEq, Int.reduceLT, Int.reduceLE, Int.reduceAdd, Int.reduceSub, VC.regC_nil, VC.regC_cons, VC.regCK_eq, VC.callQ, VC.tailQ, VC.goCall, VC.chStep]
      exact ⟨SAME.intro (by kernel_rfl), m - 1, by omega, k + 1, _, _, by omega, rfl, H9.rw'.bel, hR⟩
    · have e9 : (((s.p (s.p i).k).tk : Int) = 0) = False := eq_false (by omega)
      have hyl : yields s.p i = kLess (((s.p (s.p i).k).tk : Int), ((s.p i).k : Int)) (((s.p i).tk : Int), (i : Int)) := by unfold yields; rw [if_neg hz]
      simp -dsimp only [Fa.F9, e5, e6, e7, rdI_of hc, hc, rdSA_of o0, rdSN_of o0, rdSC_of o0, o0, Nat.zero_add, Nat.mul_one, Int.toNat_natCast, rdSA_of q1, rdSN_of q1, rdSC_of q1, q1, rdSA_of q2, rdSN_of q2, rdSC_of q2, q2, rdSA_of q3, rdSN_of q3, rdSC_of q3, q3, rdSA_of q4, rdSN_of q4, rdSC_of q4, q4, rdI_of c0, c0, rdI_of c1, c1, rdB_of c2, c2, rdI_of c3, c3, rdI_of c4, c4, t0, t1, t2, t3, t4, VC.frozen_set, Option.isSome_some, oth n5, oth n6, oth n7, oth n8, oth n9, oth n10, oth n11, oth n12, oth n13, oth n14, oth n15, oth n16, oth n17, oth n18, oth n19, oth n20, oth n21, oth n22, oth n23, oth n24, oth n25, oth n26, oth n27, oth n28, oth n29, rdI_of d1, d1, rdB_of d2, d2, e8', e9, h0', ii, r1, r2, k0, fk, fk1, fm1, z0, z1, z2, z3, z4, y0, y1, y2, y3, y4, VC.Now, VC.vc, VC.lib, VC.regQ, VC.loopK, VC.reg, VC.opP, VC.pv, VC.thenF, VC.blkF, VC.retF, VC.resV, VC.oneV, VC.evo, VC.bin, VC.binI, VC.cmpI, VC.arithI, VC.ldv, VC.slv, VC.pickP, VC.holds, VC.chainOf, VC.look, VC.junk, VC.put, VC.eff, VC.callee, VC.pureB, VC.rdK, VC.rdKs, VC.okKs, VC.eqKs, VC.fillL, VC.putL, VC.stW, VC.stOK, VC.mixF, VC.setAll, Nat.reduceAdd, Nat.reduceSub, Nat.reduceMul, if_true, if_false, ↓reduceIte, forall_const, implies_true, reduceCtorEq, ne_eq, Nat.reduceBNe, Nat.reduceBEq, IntKind.signed, Nat.reduceEqDiff, Nat.reduceLeDiff, Nat.reduceLT, eq_self, Int.reduceEq, Int.reduceLT, Int.reduceLE, Int.reduceAdd, Int.reduceSub, VC.regC_nil, VC.regC_cons, VC.regCK_eq, VC.callQ, VC.tailQ, VC.goCall, VC.chStep]
      intro u1
      refine WP_calls Fa.mix (by kernel_rfl) (by kernel_rfl) rfl ?_
      simp -dsimp only [Fa.F9, e5, e6, e7, rdI_of hc, hc, rdSA_of o0, rdSN_of o0, rdSC_of o0, o0, Nat.zero_add, Nat.mul_one, Int.toNat_natCast, rdSA_of q1, rdSN_of q1, rdSC_of q1, q1, rdSA_of q2, rdSN_of q2, rdSC_of q2, q2, rdSA_of q3, rdSN_of q3, rdSC_of q3, q3, rdSA_of q4, rdSN_of q4, rdSC_of q4, q4, rdI_of c0, c0, rdI_of c1, c1, rdB_of c2, c2, rdI_of c3, c3, rdI_of c4, c4, t0, t1, t2, t3, t4, VC.frozen_set, Option.isSome_some, oth n5, oth n6, oth n7, oth n8, oth n9, oth n10, oth n11, oth n12, oth n13, oth n14, oth n15, oth n16, oth n17, oth n18, oth n19, oth n20, oth n21, oth n22, oth n23, oth n24, oth n25, oth n26, oth n27, oth n28, oth n29, rdI_of d1, d1, rdB_of d2, d2, e8', e9, h0', ii, r1, r2, k0, fk, fk1, fm1, z0, z1, z2, z3, z4, y0, y1, y2, y3, y4, VC.Now, VC.vc_skip, VC.vc_ret, VC.vc_exit, VC.vc_block, VC.vc_cond, VC.vc_region, VC.lib, VC.regQ, VC.loopK, VC.reg, VC.opP, VC.pv, VC.thenF, VC.blkF, VC.retF, VC.resV, VC.oneV, VC.evo, VC.bin, VC.binI, VC.cmpI, VC.arithI, VC.ldv, VC.slv, VC.pickP, VC.holds, VC.chainOf, VC.look, VC.junk, VC.put, VC.eff, VC.callee, VC.pureB, VC.rdK, VC.rdKs, VC.okKs, VC.eqKs, VC.fillL, VC.putL, VC.stW, VC.stOK, VC.mixF, VC.setAll, Nat.reduceAdd, Nat.reduceSub, Nat.reduceMul, if_true, if_false, ↓reduceIte, forall_const, implies_true, reduceCtorEq, ne_eq, Nat.reduceBNe, Nat.reduceBEq, IntKind.signed, Nat.reduceEqDiff, Nat.reduceLeDiff, Nat.reduceLT, eq_self, Int.reduceEq, Int.reduceLT, Int.reduceLE, Int.reduceAdd, Int.reduceSub, VC.regC_nil, VC.regC_cons, VC.regCK_eq, VC.callQ, VC.tailQ, VC.goCall, VC.chStep]
      by_cases hy : yields s.p i = true
      · have e : bnew n i s.p = s.p i := by unfold bnew; rw [if_neg (by omega), if_neg (by omega), if_neg (by omega), if_neg (by omega), if_pos h0, if_pos hy]
        refine CALLQ_of (v := .bool true) (fun _ wr _ => by rw [← hy, hyl]; exact less_any (((s.p (s.p i).k).tk : Int), ((s.p i).k : Int)) (((s.p i).tk : Int), (i : Int)) wr) ?_
        simp -dsimp only [Fa.F9, e5, e6, e7, rdI_of hc, hc, rdSA_of o0, rdSN_of o0, rdSC_of o0, o0, Nat.zero_add, Nat.mul_one, Int.toNat_natCast, rdSA_of q1, rdSN_of q1, rdSC_of q1, q1, rdSA_of q2, rdSN_of q2, rdSC_of q2, q2, rdSA_of q3, rdSN_of q3, rdSC_of q3, q3, rdSA_of q4, rdSN_of q4, rdSC_of q4, q4, rdI_of c0, c0, rdI_of c1, c1, rdB_of c2, c2, rdI_of c3, c3, rdI_of c4, c4, t0, t1, t2, t3, t4, VC.frozen_set, Option.isSome_some, oth n5, oth n6, oth n7, oth n8, oth n9, oth n10, oth n11, oth n12, oth n13, oth n14, oth n15, oth n16, oth n17, oth n18, oth n19, oth n20, oth n21, oth n22, oth n23, oth n24, oth n25, oth n26, oth n27, oth n28, oth n29, rdI_of d1, d1, rdB_of d2, d2, e8', e9, h0', ii, r1, r2, k0, fk, fk1, fm1, z0, z1, z2, z3, z4, y0, y1, y2, y3, y4, VC.Now, VC.vc_skip, VC.vc_ret, VC.vc_exit, VC.vc_block, VC.vc_cond, VC.vc_region, VC.lib, VC.regQ, VC.loopK, VC.reg, VC.opP, VC.pv, VC.thenF, VC.blkF, VC.retF, VC.resV, VC.oneV, VC.evo, VC.bin, VC.binI, VC.cmpI, VC.arithI, VC.ldv, VC.slv, VC.pickP, VC.holds, VC.chainOf, VC.look, VC.junk, VC.put, VC.eff, VC.callee, VC.pureB, VC.rdK, VC.rdKs, VC.okKs, VC.eqKs, VC.fillL, VC.putL, VC.stW, VC.stOK, VC.mixF, VC.setAll, Nat.reduceAdd, Nat.reduceSub, Nat.reduceMul, if_true, if_false, ↓reduceIte, forall_const, implies_true, reduceCtorEq, ne_eq, Nat.reduceBNe, Nat.reduceBEq, IntKind.signed, Nat.reduceEqDiff, Nat.reduceLeDiff, Nat.reduceLT, eq_self, Int.reduceEq, Int.reduceLT, Int.reduceLE, Int.reduceAdd, Int.reduceSub, VC.regC_nil, VC.regC_cons, VC.regCK_eq, VC.callQ, VC.tailQ, VC.goCall, VC.chStep]
        intro _ w9 hB9
        have hd := (below_drewN (Below.refl _ (w5.setCell ⟨ob, 0, none⟩ (.slice A5 (s.codes.length + 1) c5))) u1).trans hB9
        have H9 := hS.below hd
        rw [← bin_none (noEnter (n := n) (by omega : (s.p i).at' ≠ 3)) s.inn] at H9
        have hR := RI.step _ e hi H9.rw'.res H9.rf (by simp [h0]) (by simp [h0]) (by simp [h0]) (by simp [h0]) (by simp [h0])
        rw [← hbs] at hR
        exact ⟨SAME.intro (by kernel_rfl), m - 1, by omega, k + 1, _, _, by omega, rfl, H9.rw'.bel, hR⟩
      · have hy' : yields s.p i = false := by simpa using hy
        have e : bnew n i s.p = ⟨3, (s.p i).k + 1, (s.p i).m, (s.p i).tk, (s.p i).ch⟩ := by unfold bnew; rw [if_neg (by omega), if_neg (by omega), if_neg (by omega), if_neg (by omega), if_pos h0, if_neg hy]
        refine CALLQ_of (v := .bool false) (fun _ wr _ => by rw [← hy', hyl]; exact less_any (((s.p (s.p i).k).tk : Int), ((s.p i).k : Int)) (((s.p i).tk : Int), (i : Int)) wr) ?_
        simp -dsimp only [Fa.F9, e5, e6, e7, rdI_of hc, hc, rdSA_of o0, rdSN_of o0, rdSC_of o0, o0, Nat.zero_add, Nat.mul_one, Int.toNat_natCast, rdSA_of q1, rdSN_of q1, rdSC_of q1, q1, rdSA_of q2, rdSN_of q2, rdSC_of q2, q2, rdSA_of q3, rdSN_of q3, rdSC_of q3, q3, rdSA_of q4, rdSN_of q4, rdSC_of q4, q4, rdI_of c0, c0, rdI_of c1, c1, rdB_of c2, c2, rdI_of c3, c3, rdI_of c4, c4, t0, t1, t2, t3, t4, VC.frozen_set, Option.isSome_some, oth n5, oth n6, oth n7, oth n8, oth n9, oth n10, oth n11, oth n12, oth n13, oth n14, oth n15, oth n16, oth n17, oth n18, oth n19, oth n20, oth n21, oth n22, oth n23, oth n24, oth n25, oth n26, oth n27, oth n28, oth n29, rdI_of d1, d1, rdB_of d2, d2, e8', e9, h0', ii, r1, r2, k0, fk, fk1, fm1, z0, z1, z2, z3, z4, y0, y1, y2, y3, y4, VC.Now, VC.vc_skip, VC.vc_ret, VC.vc_exit, VC.vc_block, VC.vc_cond, VC.vc_region, VC.lib, VC.regQ, VC.loopK, VC.reg, VC.opP, VC.pv, VC.thenF, VC.blkF, VC.retF, VC.resV, VC.oneV, VC.evo, VC.bin, VC.binI, VC.cmpI, VC.arithI, VC.ldv, VC.slv, VC.pickP, VC.holds, VC.chainOf, VC.look, VC.junk, VC.put, VC.eff, VC.callee, VC.pureB, VC.rdK, VC.rdKs, VC.okKs, VC.eqKs, VC.fillL, VC.putL, VC.stW, VC.stOK, VC.mixF, VC.setAll, Nat.reduceAdd, Nat.reduceSub, Nat.reduceMul, if_true, if_false, ↓reduceIte, forall_const, implies_true, reduceCtorEq, ne_eq, Nat.reduceBNe, Nat.reduceBEq, IntKind.signed, Nat.reduceEqDiff, Nat.reduceLeDiff, Nat.reduceLT, eq_self, Int.reduceEq, Int.reduceLT, Int.reduceLE, Int.reduceAdd, Int.reduceSub, VC.regC_nil, VC.regC_cons, VC.regCK_eq, VC.callQ, VC.tailQ, VC.goCall, VC.chStep]
        intro _ w9 hB9
        have hd := (below_drewN (Below.refl _ (w5.setCell ⟨ob, 0, none⟩ (.slice A5 (s.codes.length + 1) c5))) u1).trans hB9
        have hS9 := hS.below hd
        obtain ⟨_, g1, _, _, _⟩ := RFm.out hS9.rf
        obtain ⟨v0, _, _, v3, _⟩ := RFm.cells hS9.rf hi
        rw [upd_same] at v0 v3
        obtain ⟨p0, _, _, p3, _⟩ := RFm.soft hS9.rf hi
        have H9 := (RX.A ((RX.K (hS9) (((s.p i).k : Int) + 1))) 3)
        rw [← bin_none (noEnter (n := n) (by omega : (s.p i).at' ≠ 3)) s.inn] at H9
        have hR := RI.step _ e hi H9.rw'.res H9.rf (by simp [h0]) (by simp [h0]) (by simp [h0]) (by simp [h0]) (by simp [h0])
        rw [← hbs] at hR
        simp -dsimp only [Fa.F9, e5, e6, e7, rdI_of hc, hc, rdSA_of o0, rdSN_of o0, rdSC_of o0, o0, Nat.zero_add, Nat.mul_one, Int.toNat_natCast, rdSA_of q1, rdSN_of q1, rdSC_of q1, q1, rdSA_of q2, rdSN_of q2, rdSC_of q2, q2, rdSA_of q3, rdSN_of q3, rdSC_of q3, q3, rdSA_of q4, rdSN_of q4, rdSC_of q4, q4, rdI_of c0, c0, rdI_of c1, c1, rdB_of c2, c2, rdI_of c3, c3, rdI_of c4, c4, t0, t1, t2, t3, t4, VC.frozen_set, Option.isSome_some, oth n5, oth n6, oth n7, oth n8, oth n9, oth n10, oth n11, oth n12, oth n13, oth n14, oth n15, oth n16, oth n17, oth n18, oth n19, oth n20, oth n21, oth n22, oth n23, oth n24, oth n25, oth n26, oth n27, oth n28, oth n29, rdI_of d1, d1, rdB_of d2, d2, e8', e9, h0', ii, r1, r2, k0, fk, fk1, fm1, z0, z1, z2, z3, z4, y0, y1, y2, y3, y4, rdSA_of g1, rdSN_of g1, rdSC_of g1, g1, rdI_of v0, v0, rdI_of v3, v3, p0, p3, VC.Now, VC.vc, VC.lib, VC.regQ, VC.loopK, VC.reg, VC.opP, VC.pv, VC.thenF, VC.blkF, VC.retF, VC.resV, VC.oneV, VC.evo, VC.bin, VC.binI, VC.cmpI, VC.arithI, VC.ldv, VC.slv, VC.pickP, VC.holds, VC.chainOf, VC.look, VC.junk, VC.put, VC.eff, VC.callee, VC.pureB, VC.rdK, VC.rdKs, VC.okKs, VC.eqKs, VC.fillL, VC.putL, VC.stW, VC.stOK, VC.mixF, VC.setAll, Nat.reduceAdd, Nat.reduceSub, Nat.reduceMul, if_true, if_false, ↓reduceIte, forall_const, implies_true, reduceCtorEq, ne_eq, Nat.reduceBNe, Nat.reduceBEq, IntKind.signed, Nat.reduceEqDiff, Nat.reduceLeDiff, Nat.reduceLT, eq_self, Int.reduceEq, Int.reduceLT, Int.reduceLE, Int.reduceAdd, Int.reduceSub, VC.regC_nil, VC.regC_cons, VC.regCK_eq, VC.callQ, VC.tailQ, VC.goCall, VC.chStep]
        exact ⟨SAME.intro (by kernel_rfl), m - 1, by omega, k + 1, _, _, by omega, rfl, H9.rw'.bel, hR⟩

theorem ref_any (A : Option Addr) (n : Nat) (c : Nat) (l : List Int) (w : World) (hr : Rd w A (l.map (Value.int .i64))) (h1 : 1 ≤ n) (h4 : n ≤ 4) (hl : l.length ≤ 120) :
    Calls Try.prog 9 #[.int .i64 n, .slice A l.length c] w fun e w' => ∃ v, e = .returned v ∧ BakO (w.heap.size + 1) n (bst n (fun i => l.getD i 0) l.length) v w' ∧ Below w.heap.size w w' :=
  refBut.2 ref_four A n c l w hr h1 h4 hl
end Go.Proofs.Ytnggjekppdlaoaa
