/- Many copies as one, the document's: the second half of a reach. -/
import Derived.Test.YtnggjekppdlaoaaRegD6
namespace Go.Proofs.Ytnggjekppdlaoaa
open Go Go.RowKit Go.VC
set_option linter.unusedSimpArgs false
set_option linter.unusedVariables false

theorem okSeq {w : World} {e : TypeId} {K k g c : Nat} {P : Nat → List Value} (h : OwnK w 0 e K k (.slice (some ⟨g, 0, none⟩) k c) (seqC P k)) (hK : ∀ i, i < k → (P i).length = K) {i : Nat} (hi : i < k) : ∀ (vs : List Value) (j : Nat), j + vs.length ≤ K → (∀ v ∈ vs, v.oneCell' = true) → stOK w ⟨g, i * K, none⟩ j vs
  | [], _, _, _ => trivial
  | v :: vs, j, hj, h1 => by
    have hj' : j + (vs.length + 1) ≤ K := hj
    have hl := hK i hi
    obtain ⟨hc, hf⟩ := OwnK.cellS h hK hi (show j < K by omega) (v := (P i)[j]'(by omega)) (List.getElem?_eq_getElem (by omega))
    show (w.cell? ((⟨g, i * K, none⟩ : Addr).add j)).isSome = true ∧ w.frozen? ((⟨g, i * K, none⟩ : Addr).add j) = false ∧ v.oneCell' = true ∧ stOK w _ _ _
    rw [add_mk]
    exact ⟨by rw [hc]; rfl, hf, h1 v (by simp), okSeq h hK hi vs (j + 1) (by omega) fun u hu => h1 u (by simp [hu])⟩
theorem setSeq3 {B : Nat} {L : List Ob} {w : World} {e : TypeId} {K k g c : Nat} {P : Nat → List Value} (h : Hp B L w) (l : Nat) (hl : L[l]? = some (oOwn e K k (.slice (some ⟨g, 0, none⟩) k c) (seqC P k))) (hK : ∀ i, i < k → (P i).length = K) {i : Nat} (hi : i < k) (h3 : 3 ≤ K) (v0 v1 v2 : Value) :
    St B L w (L.set l (oOwn e K k (.slice (some ⟨g, 0, none⟩) k c) (seqC (upd P i ((((P i).set 0 v0).set 1 v1).set 2 v2)) k))) (stW w ⟨g, i * K, none⟩ 0 [v0, v1, v2]) := by
  have hlt : l < L.length := by
    rcases Nat.lt_or_ge l L.length with h' | h'
    · exact h'
    · rw [List.getElem?_eq_none h'] at hl; cases hl
  have s1 := setSeq h l hl hK hi (show 0 < K by omega) v0
  have s2 := setSeq s1.hp l (List.getElem?_set_self hlt) (len_upd hK (by rw [List.length_set]; exact hK i hi)) hi (show 1 < K by omega) v1
  rw [List.set_set, upd_upd, upd_same] at s2
  have s3 := setSeq s2.hp l (List.getElem?_set_self hlt) (len_upd hK (by rw [List.length_set, List.length_set]; exact hK i hi)) hi (show 2 < K by omega) v2
  rw [List.set_set, upd_upd, upd_same] at s3
  rw [stW_consO, stW_consO, stW_consO]
  exact (s1.trans s2).trans s3

set_option maxRecDepth 8000 in
set_option maxHeartbeats 8000000 in
theorem dreach_cont : dreachBut.1 := by
  unfold dreachBut
  refine ⟨?_, ?_⟩
  · intro B n t a s st sn w hd hok hn ht c sb Ao co j hj u u1 uu x hx0 hx i hi hwho hto hr go cgo eo2 gu cgu eu2 Av cv hmany hmx2 u2 wy hbt hsx nsb A5 c5 nsb7 hsec w7 stw bx7
    have h7 := stw.hp
    have z2 := bx7.at (i := 2) rfl
    have z1 := bx7.at (i := 1) rfl
    rw [hx0] at z2
    rw [hj] at z1
    have hsl := bx7.1
    have hbm : Box w7 a.mb (shelfC n a) := h7.get 0 rfl
    have hml := hbm.1
    have m0 := hbm.at (i := 0) rfl
    have hKu := len_upd (P := unsP a s) (K := 6) (i := i) (k := s.k) (c := unC (.slice A5 ((sn i).length + 1) c5) (s.op i)) (fun _ _ => rfl) rfl
    have hKo := len_upd (P := opsP s) (K := 6) (i := i) (k := s.k) (c := apC (s.op i)) (fun _ _ => rfl) rfl
    have hou : OwnK w7 0 189 6 s.k a.vu (seqC (upd (unsP a s) i (unC (.slice A5 ((sn i).length + 1) c5) (s.op i))) s.k) := h7.get 3 rfl
    rw [eu2] at hou
    have hgu := (hou.lt (g := gu) rfl).2
    have y0 := (OwnK.cellS hou hKu hi (show 0 < 6 by omega) (by rw [upd_same]; rfl)).1
    have y1 := (OwnK.cellS hou hKu hi (show 1 < 6 by omega) (by rw [upd_same]; rfl)).1
    have y2 := (OwnK.cellS hou hKu hi (show 2 < 6 by omega) (by rw [upd_same]; rfl)).1
    have hrs : Recs w7 a.gs n 1 (upd (fun i => [a.sv i]) x [a.sv x]) := h7.get 1 rfl
    have s0 := hrs.at (i := x) (j := 0) hx (by omega) (by rw [upd_same]; rfl)
    have hgs := hrs.1
    have hsx' : OwnK w7 0 187 3 (st x).length (a.sv x) ((st x).flatMap stL) := h7.get 4 rfl
    obtain ⟨Ax, cx, ex, _⟩ := id hsx'
    rw [ex] at s0 hsx'
    simp only [Nat.mul_one, Nat.add_zero] at s0 y0
    have hlen := hd.len x
    have hhi : ∀ m, m ≤ 120 → fits .i64 ((m : Nat) : Int) := fun m hm => fits_i64 (by omega) (by omega)
    have hkb := hok.k
    have hx5 : x < 5 := by omega
    have hln : ((2 * ((sn i).length + 1 : Nat) : Int) ≤ n) ↔ 2 * ((s.op i).many + 1) ≤ n := by omega
    refine WP_held 21 (fun j => (a.sv x).ownBlock = some j) (.take 0 (.take 1 (.take 2 (.take 3 (.take 4 (.take 5 (.take 6 (.take 7 (.take 8 (.take 9 (.take 10 (.take 11 (.take 12 (.take 13 (.take 14 (.take 15 (.take 16 (.take 17 (.one 18 (.one 19 (.take 20 (.one 21 .done)))))))))))))))))))))) Fa.mix (by kernel_rfl) rfl ?_
    simp -dsimp only [VC.heldF_done, VC.heldF_last, VC.planF_done, VC.planF_take, VC.planF_one, VC.planF_two, VC.planK_eq, VC.heldF_take, VC.heldF_one, VC.heldF_two, VC.heldF_twoL, VC.heldK_eq, VC.okRd, Fa.F54, rdI_of z2, z2, rdSA_of m0, rdSN_of m0, rdSC_of m0, m0, rdSA_of s0, rdSN_of s0, rdSC_of s0, s0, rdI_of y0, y0, rdI_of y1, y1, rdI_of y2, y2, hsl, hml, hgu, hgs, Int.toNat_natCast, Nat.zero_add, VC.Now, VC.vc, VC.lib, VC.regQ, VC.loopK, VC.reg, VC.opP, VC.pv, VC.thenF, VC.blkF, VC.retF, VC.resV, VC.oneV, VC.evo, VC.bin, VC.binI, VC.cmpI, VC.arithI, VC.ldv, VC.slv, VC.pickP, VC.holds, VC.chainOf, VC.look, VC.junk, VC.put, VC.eff, VC.callee, VC.pureB, VC.rdK, VC.rdKs, VC.okKs, VC.eqKs, VC.fillL, VC.putL, VC.stW, VC.stOK, VC.mixF, VC.setAll, Nat.reduceAdd, Nat.reduceSub, Nat.reduceMul, if_true, if_false, ↓reduceIte, forall_const, implies_true, reduceCtorEq, ne_eq, Nat.reduceBNe, Nat.reduceBEq, IntKind.signed, Nat.reduceEqDiff, Nat.reduceLeDiff, Nat.reduceLT, eq_self, Int.reduceEq, Int.reduceLT, Int.reduceLE, Int.reduceAdd, Int.reduceSub, VC.regC_nil, VC.regC_cons, VC.regCK_eq, VC.callQ, VC.tailQ, VC.goCall, VC.chStep]
    have nmb : ¬ (a.sv x).ownBlock = some a.mb := fun hf => h7.ne 0 4 (by decide) rfl rfl a.mb rfl hf
    have nsb4 : ¬ (a.sv x).ownBlock = some sb := fun hf => nsb (o := oOwn 187 3 (st x).length (a.sv x) ((st x).flatMap stL)) (by simp) hf
    have ngs : ¬ (a.sv x).ownBlock = some a.gs := fun hf => h7.ne 1 4 (by decide) rfl rfl a.gs rfl hf
    have ngu : ¬ (a.sv x).ownBlock = some gu := fun hf => h7.ne 3 4 (by decide) rfl rfl gu (show a.vu.ownBlock = some gu by rw [eu2]; rfl) hf
    have hHd := h7.drewN 1
    have ag0 : Agree (fun j => (a.sv x).ownBlock = some j) w7 (w7.drewN 1) := Agree.of_below (below_drewN (Below.refl _ w7) 1)
    refine ⟨nmb, nsb4, nmb, nsb4, ⟨by omega, by omega⟩, ngs, ngu, ag0.trans (Agree.of_below ((Below.refl _ _).alloc (Nat.le_refl _) _)), ?_⟩
    refine OPW_appK (v := a.sv x) rfl Fa.apI190 (by rw [ex]; rfl) rfl rfl (by simp [Value.oneCell']) (hHd.get 4 rfl) (Nat.zero_le _) (by omega) (by decide) fun v8 w8 ho8 hg8 hst8 => ?_
    obtain ⟨A8, c8, e8, _⟩ := id ho8
    have hl5 : (st x).length + 1 = (st x ++ [(s.op i).b]).length := by rw [List.length_append]; rfl
    have hf5 : (st x).flatMap stL ++ stL (s.op i).b = (st x ++ [(s.op i).b]).flatMap stL := by rw [List.flatMap_append]; rfl
    change OwnK w8 0 _ 3 ((st x).length + 1) v8 ((st x).flatMap stL ++ stL (s.op i).b) at ho8
    rw [hf5, hl5] at ho8
    obtain ⟨⟨r1, r2⟩, st8⟩ := growRow hHd 1 4 rfl rfl (by decide) ho8 hg8 hst8 hx (u := a.sv x) (by rw [upd_same])
    rw [upd_upd] at st8
    have ag8 := ag0.trans (Agree.grown hg8 fun j hj => hj)
    subst e8
    have st9 := (stw.drewN 1).trans st8
    have h9 := st9.hp
    have hbm9 : Box (w8.setCell ⟨a.gs, x, none⟩ (.slice A8 ((st x).length + 1) c8)) a.mb (shelfC n a) := h9.get 0 rfl
    have hml9 := hbm9.1
    have m09 := hbm9.at (i := 0) rfl
    have m19 := hbm9.at (i := 1) rfl
    rw [eo2] at m19
    have hou9 : OwnK (w8.setCell ⟨a.gs, x, none⟩ (.slice A8 ((st x).length + 1) c8)) 0 189 6 s.k a.vu (seqC (upd (unsP a s) i (unC (.slice A5 ((sn i).length + 1) c5) (s.op i))) s.k) := h9.get 3 rfl
    rw [eu2] at hou9
    have hgu9 := (hou9.lt (g := gu) rfl).2
    have y49 := (OwnK.cellS hou9 (len_upd (P := unsP a s) (K := 6) (i := i) (k := s.k) (c := (unC (.slice A5 ((sn i).length + 1) c5) (s.op i))) (fun _ _ => rfl) rfl) hi (show 4 < 6 by omega) (by rw [upd_same]; rfl)).1
    have y39 := (OwnK.cellS hou9 (len_upd (P := unsP a s) (K := 6) (i := i) (k := s.k) (c := (unC (.slice A5 ((sn i).length + 1) c5) (s.op i))) (fun _ _ => rfl) rfl) hi (show 3 < 6 by omega) (by rw [upd_same]; rfl)).1
    have hoo9 : OwnK (w8.setCell ⟨a.gs, x, none⟩ (.slice A8 ((st x).length + 1) c8)) 0 145 6 s.k a.vo (seqC (upd (opsP s) i (apC (s.op i))) s.k) := h9.get 2 rfl
    rw [eo2] at hoo9
    have hgo9 := (hoo9.lt (g := go) rfl).2
    rw [hsec] at y39
    simp only [if_true] at y39
    have hb1 : (reach1 x s.cp (s.op i)).b = (s.op i).b := by unfold reach1; show (if (s.op i).second = false ∧ _ then _ else _) = _; rw [if_neg (by rw [hsec]; intro hh; cases hh.1)]
    have hl1 : st x ++ [(s.op i).b] = if (s.op i).second = true then st x ++ [(s.op i).b] else st x := (if_pos hsec).symm
    by_cases q9 : 2 * ((s.op i).many + 1) ≤ n
    · have e9 : ((2 * ((sn i).length + 1 : Nat) : Int) ≤ n) = True := eq_true (hln.2 q9)
      simp -dsimp only [VC.heldF_done, VC.heldF_last, VC.planF_done, VC.planF_take, VC.planF_one, VC.planF_two, VC.planK_eq, VC.heldF_take, VC.heldF_one, VC.heldF_two, VC.heldF_twoL, VC.heldK_eq, VC.okRd, Fa.F54, rdI_of z2, z2, rdSA_of m0, rdSN_of m0, rdSC_of m0, m0, rdSA_of s0, rdSN_of s0, rdSC_of s0, s0, hsl, hml, hgu, hgs, rdSA_of y49, rdSN_of y49, rdSC_of y49, y49, rdSA_of m09, rdSN_of m09, rdSC_of m09, m09, hml9, hgu9, e9, Int.toNat_natCast, Nat.zero_add, VC.Now, VC.vc, VC.lib, VC.regQ, VC.loopK, VC.reg, VC.opP, VC.pv, VC.thenF, VC.blkF, VC.retF, VC.resV, VC.oneV, VC.evo, VC.bin, VC.binI, VC.cmpI, VC.arithI, VC.ldv, VC.slv, VC.pickP, VC.holds, VC.chainOf, VC.look, VC.junk, VC.put, VC.eff, VC.callee, VC.pureB, VC.rdK, VC.rdKs, VC.okKs, VC.eqKs, VC.fillL, VC.putL, VC.stW, VC.stOK, VC.mixF, VC.setAll, Nat.reduceAdd, Nat.reduceSub, Nat.reduceMul, if_true, if_false, ↓reduceIte, forall_const, implies_true, reduceCtorEq, ne_eq, Nat.reduceBNe, Nat.reduceBEq, IntKind.signed, Nat.reduceEqDiff, Nat.reduceLeDiff, Nat.reduceLT, eq_self, Int.reduceEq, Int.reduceLT, Int.reduceLE, Int.reduceAdd, Int.reduceSub, VC.regC_nil, VC.regC_cons, VC.regCK_eq, VC.callQ, VC.tailQ, VC.goCall, VC.chStep]
      refine ⟨ag8, ⟨by omega, by omega⟩, ⟨r1, r2⟩, fits_i64 (by omega) (by omega), fun m => ?_⟩
      refine DPost.reach hx hi hbt hd (v1 := .slice A8 ((st x).length + 1) c8) (v2 := .slice A5 ((sn i).length + 1) c5) (l1 := st x ++ [(s.op i).b]) (l2 := sn i ++ [x]) (o' := reach1 x s.cp (s.op i)) ?_ (if_pos q9) hl1 (by unfold snR; rw [if_pos (Or.inl q9)]) hr
      have := st9.drewN m
      unfold unC
      rw [hb1]
      exact this
    · have e9 : ((2 * ((sn i).length + 1 : Nat) : Int) ≤ n) = False := eq_false fun hh => q9 (hln.1 hh)
      have hKo9 := len_upd (P := opsP s) (K := 6) (i := i) (k := s.k) (c := apC (s.op i)) (fun _ _ => rfl) rfl
      obtain ⟨c5o, f5o⟩ := OwnK.cellS hoo9 hKo9 hi (show 5 < 6 by omega) (by rw [upd_same]; rfl)
      have kk5 : ((w8.setCell ⟨a.gs, x, none⟩ (.slice A8 ((st x).length + 1) c8)).cell? ⟨go, i * 6 + 5, none⟩).isSome = true := by rw [c5o]; rfl
      have st10 : ∀ m, St B (DMid n a s st sn x i (a.sv x) (st x) (opsP s i) (unsP a s i) (a.uv i) (sn i)) w (DMid n a s st sn x i (.slice A8 ((st x).length + 1) c8) (st x ++ [(s.op i).b]) (apC { s.op i with to := t }) (unC (.slice A5 ((sn i).length + 1) c5) (s.op i)) (.slice A5 ((sn i).length + 1) c5) (sn i ++ [x])) (((w8.setCell ⟨a.gs, x, none⟩ (.slice A8 ((st x).length + 1) c8)).drewN m).setCell ⟨go, i * 6 + 5, none⟩ (.int .i64 t)) := fun m => by
        have hio : (DMid n a s st sn x i (.slice A8 ((st x).length + 1) c8) (st x ++ [(s.op i).b]) (apC (s.op i)) (unC (.slice A5 ((sn i).length + 1) c5) (s.op i)) (.slice A5 ((sn i).length + 1) c5) (sn i ++ [x]))[2]? = some (oOwn 145 6 s.k (.slice (some ⟨go, 0, none⟩) s.k cgo) (seqC (upd (opsP s) i (apC (s.op i))) s.k)) := by rw [← eo2]; rfl
        have := setSeq (h9.drewN m) 2 hio hKo9 hi (show 5 < 6 by omega) (.int .i64 t)
        rw [upd_upd, upd_same, ← eo2] at this
        exact (st9.drewN m).trans this
      have hbm10 : ∀ m, Box (((w8.setCell ⟨a.gs, x, none⟩ (.slice A8 ((st x).length + 1) c8)).drewN m).setCell ⟨go, i * 6 + 5, none⟩ (.int .i64 t)) a.mb (shelfC n a) := fun m => (st10 m).hp.get 0 rfl
      have hml10 := fun m => (hbm10 m).1
      have m1x := fun m => (hbm10 m).at (i := 1) rfl
      rw [eo2] at m1x
      have hoo10 : ∀ m, OwnK (((w8.setCell ⟨a.gs, x, none⟩ (.slice A8 ((st x).length + 1) c8)).drewN m).setCell ⟨go, i * 6 + 5, none⟩ (.int .i64 t)) 0 145 6 s.k a.vo (seqC (upd (opsP s) i (apC { s.op i with to := t })) s.k) := fun m => (st10 m).hp.get 2 rfl
      rw [eo2] at hoo10
      have hKo10 := len_upd (P := opsP s) (K := 6) (i := i) (k := s.k) (c := apC { s.op i with to := t }) (fun _ _ => rfl) rfl
      have hgo10 := fun m => ((hoo10 m).lt (g := go) rfl).2
      have w2x := fun m => (OwnK.cellS (hoo10 m) hKo10 hi (show 2 < 6 by omega) (v := .bool (s.op i).wr) (by rw [upd_same]; rfl)).1
      cases hwr : (s.op i).wr with
      | true =>
        rw [hwr] at w2x
        simp -dsimp only [VC.heldF_done, VC.heldF_last, VC.planF_done, VC.planF_take, VC.planF_one, VC.planF_two, VC.planK_eq, VC.heldF_take, VC.heldF_one, VC.heldF_two, VC.heldF_twoL, VC.heldK_eq, VC.okRd, Fa.F54, rdI_of z2, z2, rdSA_of m0, rdSN_of m0, rdSC_of m0, m0, rdSA_of s0, rdSN_of s0, rdSC_of s0, s0, hsl, hml, hgu, hgs, rdSA_of y49, rdSN_of y49, rdSC_of y49, y49, rdSA_of m09, rdSN_of m09, rdSC_of m09, m09, rdI_of y39, y39, rdSA_of m19, rdSN_of m19, rdSC_of m19, m19, hml9, hgu9, hgo9, kk5, f5o, e9, Int.toNat_natCast, Nat.zero_add, fun m => rdSA_of (m1x m), fun m => rdSN_of (m1x m), fun m => rdSC_of (m1x m), m1x, fun m => rdB_of (w2x m), w2x, hml10, hgo10, VC.Now, VC.vc, VC.lib, VC.regQ, VC.loopK, VC.reg, VC.opP, VC.pv, VC.thenF, VC.blkF, VC.retF, VC.resV, VC.oneV, VC.evo, VC.bin, VC.binI, VC.cmpI, VC.arithI, VC.ldv, VC.slv, VC.pickP, VC.holds, VC.chainOf, VC.look, VC.junk, VC.put, VC.eff, VC.callee, VC.pureB, VC.rdK, VC.rdKs, VC.okKs, VC.eqKs, VC.fillL, VC.putL, VC.stW, VC.stOK, VC.mixF, VC.setAll, Nat.reduceAdd, Nat.reduceSub, Nat.reduceMul, if_true, if_false, ↓reduceIte, forall_const, implies_true, reduceCtorEq, ne_eq, Nat.reduceBNe, Nat.reduceBEq, IntKind.signed, Nat.reduceEqDiff, Nat.reduceLeDiff, Nat.reduceLT, eq_self, Int.reduceEq, Int.reduceLT, Int.reduceLE, Int.reduceAdd, Int.reduceSub, VC.regC_nil, VC.regC_cons, VC.regCK_eq, VC.callQ, VC.tailQ, VC.goCall, VC.chStep]
        refine ⟨ag8, ⟨by omega, by omega⟩, ⟨r1, r2⟩, fits_i64 (by omega) (by omega), fun m => ⟨⟨by omega, by omega⟩, ⟨by omega, by omega⟩, ?_⟩⟩
        refine DPost.reach hx hi hbt hd (v1 := .slice A8 ((st x).length + 1) c8) (v2 := .slice A5 ((sn i).length + 1) c5) (l1 := st x ++ [(s.op i).b]) (l2 := sn i ++ [x]) (o' := { reach1 x s.cp (s.op i) with to := (t : Int), val := if (s.op i).wr = true then (s.op i).val else (reach1 x s.cp (s.op i)).b.val }) ?_ ((if_neg q9).trans (if_pos hsec)) hl1 (by unfold snR; rw [if_pos (Or.inr hsec)]) hr
        have := st10 m
        unfold unC apC
        rw [hb1]
        show St _ _ _ (DMid n a s st sn x i _ _ [.int .i64 (s.op i).who, .int .i64 0, .bool (s.op i).wr, .int .i64 (if (s.op i).wr = true then (s.op i).val else (s.op i).b.val), .int .i64 (s.op i).frm, .int .i64 t] _ _ _) _
        rw [if_pos hwr]
        exact this
      | false =>
        rw [hwr] at w2x
        simp -dsimp only [VC.heldF_done, VC.heldF_last, VC.planF_done, VC.planF_take, VC.planF_one, VC.planF_two, VC.planK_eq, VC.heldF_take, VC.heldF_one, VC.heldF_two, VC.heldF_twoL, VC.heldK_eq, VC.okRd, Fa.F54, rdI_of z2, z2, rdSA_of m0, rdSN_of m0, rdSC_of m0, m0, rdSA_of s0, rdSN_of s0, rdSC_of s0, s0, hsl, hml, hgu, hgs, rdSA_of y49, rdSN_of y49, rdSC_of y49, y49, rdSA_of m09, rdSN_of m09, rdSC_of m09, m09, rdI_of y39, y39, rdSA_of m19, rdSN_of m19, rdSC_of m19, m19, hml9, hgu9, hgo9, kk5, f5o, e9, Int.toNat_natCast, Nat.zero_add, fun m => rdSA_of (m1x m), fun m => rdSN_of (m1x m), fun m => rdSC_of (m1x m), m1x, fun m => rdB_of (w2x m), w2x, hml10, hgo10, VC.Now, VC.vc, VC.lib, VC.regQ, VC.loopK, VC.reg, VC.opP, VC.pv, VC.thenF, VC.blkF, VC.retF, VC.resV, VC.oneV, VC.evo, VC.bin, VC.binI, VC.cmpI, VC.arithI, VC.ldv, VC.slv, VC.pickP, VC.holds, VC.chainOf, VC.look, VC.junk, VC.put, VC.eff, VC.callee, VC.pureB, VC.rdK, VC.rdKs, VC.okKs, VC.eqKs, VC.fillL, VC.putL, VC.stW, VC.stOK, VC.mixF, VC.setAll, Nat.reduceAdd, Nat.reduceSub, Nat.reduceMul, if_true, if_false, ↓reduceIte, forall_const, implies_true, reduceCtorEq, ne_eq, Nat.reduceBNe, Nat.reduceBEq, IntKind.signed, Nat.reduceEqDiff, Nat.reduceLeDiff, Nat.reduceLT, eq_self, Int.reduceEq, Int.reduceLT, Int.reduceLE, Int.reduceAdd, Int.reduceSub, VC.regC_nil, VC.regC_cons, VC.regCK_eq, VC.callQ, VC.tailQ, VC.goCall, VC.chStep]
        refine ⟨ag8, ⟨by omega, by omega⟩, ⟨r1, r2⟩, fits_i64 (by omega) (by omega), fun m => ⟨⟨by omega, by omega⟩, ⟨by omega, by omega⟩, ?_⟩⟩
        replace st10 := st10 m
        replace hml10 := hml10 m
        replace m1x := m1x m
        replace hgo10 := hgo10 m
        have hou10 : OwnK (((w8.setCell ⟨a.gs, x, none⟩ (.slice A8 ((st x).length + 1) c8)).drewN m).setCell ⟨go, i * 6 + 5, none⟩ (.int .i64 t)) 0 189 6 s.k a.vu (seqC (upd (unsP a s) i (unC (.slice A5 ((sn i).length + 1) c5) (s.op i))) s.k) := st10.hp.get 3 rfl
        rw [eu2] at hou10
        have hgu10 := (hou10.lt (g := gu) rfl).2
        have b2x := (OwnK.cellS hou10 hKu hi (show 2 < 6 by omega) (v := .int .i64 (s.op i).b.val) (by rw [upd_same]; rfl)).1
        clear hbm10 w2x
        replace hoo10 := hoo10 m
        generalize ((w8.setCell ⟨a.gs, x, none⟩ (.slice A8 ((st x).length + 1) c8)).drewN m).setCell ⟨go, i * 6 + 5, none⟩ (.int .i64 t) = w10 at st10 hml10 m1x hgo10 hou10 hgu10 b2x hoo10 ⊢
        obtain ⟨c3o, f3o⟩ := OwnK.cellS (hoo10.drewN 1) hKo10 hi (show 3 < 6 by omega) (by rw [upd_same]; rfl)
        have kk3 : ((w10.drewN 1).cell? ⟨go, i * 6 + 3, none⟩).isSome = true := by rw [c3o]; rfl
        refine WP_held 12 (fun _ => False) (.take 0 (.take 1 (.take 2 (.take 3 (.take 4 (.take 5 (.take 6 (.take 7 (.take 8 (.take 9 (.one 10 (.take 11 (.one 12 .done))))))))))))) Fa.mix (by kernel_rfl) rfl ?_
        simp -dsimp only [VC.heldF_done, VC.heldF_last, VC.planF_done, VC.planF_take, VC.planF_one, VC.planF_two, VC.planK_eq, VC.heldF_take, VC.heldF_one, VC.heldF_two, VC.heldF_twoL, VC.heldK_eq, VC.okRd, Fa.F54, rdSA_of m1x, rdSN_of m1x, rdSC_of m1x, m1x, rdI_of b2x, b2x, hml10, hgo10, hgu10, kk3, f3o, Int.toNat_natCast, Nat.zero_add, VC.Now, VC.vc, VC.lib, VC.regQ, VC.loopK, VC.reg, VC.opP, VC.pv, VC.thenF, VC.blkF, VC.retF, VC.resV, VC.oneV, VC.evo, VC.bin, VC.binI, VC.cmpI, VC.arithI, VC.ldv, VC.slv, VC.pickP, VC.holds, VC.chainOf, VC.look, VC.junk, VC.put, VC.eff, VC.callee, VC.pureB, VC.rdK, VC.rdKs, VC.okKs, VC.eqKs, VC.fillL, VC.putL, VC.stW, VC.stOK, VC.mixF, VC.setAll, Nat.reduceAdd, Nat.reduceSub, Nat.reduceMul, if_true, if_false, ↓reduceIte, forall_const, implies_true, reduceCtorEq, ne_eq, Nat.reduceBNe, Nat.reduceBEq, IntKind.signed, Nat.reduceEqDiff, Nat.reduceLeDiff, Nat.reduceLT, eq_self, Int.reduceEq, Int.reduceLT, Int.reduceLE, Int.reduceAdd, Int.reduceSub, VC.regC_nil, VC.regC_cons, VC.regCK_eq, VC.callQ, VC.tailQ, VC.goCall, VC.chStep]
        refine ⟨⟨by omega, by omega⟩, Agree.of_below (below_drewN (Below.refl _ w10) 1), kk3, ?_⟩
        have hio10 : (DMid n a s st sn x i (.slice A8 ((st x).length + 1) c8) (st x ++ [(s.op i).b]) (apC { s.op i with to := t }) (unC (.slice A5 ((sn i).length + 1) c5) (s.op i)) (.slice A5 ((sn i).length + 1) c5) (sn i ++ [x]))[2]? = some (oOwn 145 6 s.k (.slice (some ⟨go, 0, none⟩) s.k cgo) (seqC (upd (opsP s) i (apC { s.op i with to := t })) s.k)) := by rw [← eo2]; rfl
        have st11 := setSeq (st10.hp.drewN 1) 2 hio10 hKo10 hi (show 3 < 6 by omega) (.int .i64 (s.op i).b.val)
        rw [upd_upd, upd_same, ← eo2] at st11
        refine DPost.reach hx hi hbt hd (v1 := .slice A8 ((st x).length + 1) c8) (v2 := .slice A5 ((sn i).length + 1) c5) (l1 := st x ++ [(s.op i).b]) (l2 := sn i ++ [x]) (o' := { reach1 x s.cp (s.op i) with to := (t : Int), val := if (s.op i).wr = true then (s.op i).val else (reach1 x s.cp (s.op i)).b.val }) ?_ ((if_neg q9).trans (if_pos hsec)) hl1 (by unfold snR; rw [if_pos (Or.inr hsec)]) hr
        have := (st10.drewN 1).trans st11
        unfold unC apC
        rw [hb1]
        show St _ _ _ (DMid n a s st sn x i _ _ [.int .i64 (s.op i).who, .int .i64 0, .bool (s.op i).wr, .int .i64 (if (s.op i).wr = true then (s.op i).val else (s.op i).b.val), .int .i64 (s.op i).frm, .int .i64 t] _ _ _) _
        rw [if_neg (by rw [hwr]; intro hh; cases hh)]
        exact this
  · intro B n t a s st sn w hd hok hn ht c sb Ao co j hj u u1 uu x hx0 hx i hi hwho hto hr go cgo eo2 gu cgu eu2 Av cv hmany hmx2 u2 wy hbt hsx nsb A5 c5 nsb7 hsec w7 stw bx7
    have h7 := stw.hp
    have z2 := bx7.at (i := 2) rfl
    have z1 := bx7.at (i := 1) rfl
    rw [hx0] at z2
    rw [hj] at z1
    have hsl := bx7.1
    have hbm : Box w7 a.mb (shelfC n a) := h7.get 0 rfl
    have hml := hbm.1
    have m0 := hbm.at (i := 0) rfl
    have hKu := len_upd (P := unsP a s) (K := 6) (i := i) (k := s.k) (c := unC (.slice A5 ((sn i).length + 1) c5) (s.op i)) (fun _ _ => rfl) rfl
    have hKo := len_upd (P := opsP s) (K := 6) (i := i) (k := s.k) (c := apC (s.op i)) (fun _ _ => rfl) rfl
    have hou : OwnK w7 0 189 6 s.k a.vu (seqC (upd (unsP a s) i (unC (.slice A5 ((sn i).length + 1) c5) (s.op i))) s.k) := h7.get 3 rfl
    rw [eu2] at hou
    have hgu := (hou.lt (g := gu) rfl).2
    have y0 := (OwnK.cellS hou hKu hi (show 0 < 6 by omega) (by rw [upd_same]; rfl)).1
    have y1 := (OwnK.cellS hou hKu hi (show 1 < 6 by omega) (by rw [upd_same]; rfl)).1
    have y2 := (OwnK.cellS hou hKu hi (show 2 < 6 by omega) (by rw [upd_same]; rfl)).1
    have hrs : Recs w7 a.gs n 1 (upd (fun i => [a.sv i]) x [a.sv x]) := h7.get 1 rfl
    have s0 := hrs.at (i := x) (j := 0) hx (by omega) (by rw [upd_same]; rfl)
    have hgs := hrs.1
    have hsx' : OwnK w7 0 187 3 (st x).length (a.sv x) ((st x).flatMap stL) := h7.get 4 rfl
    obtain ⟨Ax, cx, ex, _⟩ := id hsx'
    rw [ex] at s0 hsx'
    simp only [Nat.mul_one, Nat.add_zero] at s0 y0
    have hlen := hd.len x
    have hhi : ∀ m, m ≤ 120 → fits .i64 ((m : Nat) : Int) := fun m hm => fits_i64 (by omega) (by omega)
    have hkb := hok.k
    have hx5 : x < 5 := by omega
    have hln : ((2 * ((sn i).length + 1 : Nat) : Int) ≤ n) ↔ 2 * ((s.op i).many + 1) ≤ n := by omega
    have hrd : RdSt w7 Ax (st x) := RdSt.own hsx'
    have htop : ∀ wr, Below w7.heap.size w7 wr → Calls Try.prog 84 #[.pointer (some ⟨a.mb, 0, none⟩), .int .i64 x] wr fun e w' => e = .returned (stV (s.cp x)) ∧ Below wr.heap.size wr w' := fun wr hwr => by
      have := top_any (mb := a.mb) (gs := a.gs) (n := n) (x := x) (c := cx) (A := Ax) (l := st x) (w := wr) ((hwr.cell (p := ⟨a.mb, 0, none⟩) hml).trans m0) (Nat.lt_of_lt_of_le hml hwr.size) (Nat.lt_of_lt_of_le hgs hwr.size) hx ((hwr.cell (p := ⟨a.gs, x, none⟩) hgs).trans s0) (hrd.below hwr) (by omega)
      rw [hd.top x] at this
      exact this
    refine WP_calls Fa.mix (by kernel_rfl) (by kernel_rfl) rfl ?_
    simp -dsimp only [Fa.F54, rdI_of z2, z2, rdI_of y0, y0, rdI_of y1, y1, rdI_of y2, y2, hsl, hgu, Int.toNat_natCast, Nat.zero_add, VC.Now, VC.vc_skip, VC.vc_ret, VC.vc_exit, VC.vc_block, VC.vc_cond, VC.vc_region, VC.lib, VC.regQ, VC.loopK, VC.reg, VC.opP, VC.pv, VC.thenF, VC.blkF, VC.retF, VC.resV, VC.oneV, VC.evo, VC.bin, VC.binI, VC.cmpI, VC.arithI, VC.ldv, VC.slv, VC.pickP, VC.holds, VC.chainOf, VC.look, VC.junk, VC.put, VC.eff, VC.callee, VC.pureB, VC.rdK, VC.rdKs, VC.okKs, VC.eqKs, VC.fillL, VC.putL, VC.stW, VC.stOK, VC.mixF, VC.setAll, Nat.reduceAdd, Nat.reduceSub, Nat.reduceMul, if_true, if_false, ↓reduceIte, forall_const, implies_true, reduceCtorEq, ne_eq, Nat.reduceBNe, Nat.reduceBEq, IntKind.signed, Nat.reduceEqDiff, Nat.reduceLeDiff, Nat.reduceLT, eq_self, Int.reduceEq, Int.reduceLT, Int.reduceLE, Int.reduceAdd, Int.reduceSub, VC.regC_nil, VC.regC_cons, VC.regCK_eq, VC.callQ, VC.tailQ, VC.goCall, VC.chStep]
    refine CALLQ_of (v := stV (s.cp x)) (fun _ wr hwr => htop wr hwr) ?_
    simp -dsimp only [Fa.F54, rdI_of z2, z2, rdI_of y0, y0, rdI_of y1, y1, rdI_of y2, y2, hsl, hgu, Int.toNat_natCast, Nat.zero_add, VC.Now, VC.vc_skip, VC.vc_ret, VC.vc_exit, VC.vc_block, VC.vc_cond, VC.vc_region, VC.lib, VC.regQ, VC.loopK, VC.reg, VC.opP, VC.pv, VC.thenF, VC.blkF, VC.retF, VC.resV, VC.oneV, VC.evo, VC.bin, VC.binI, VC.cmpI, VC.arithI, VC.ldv, VC.slv, VC.pickP, VC.holds, VC.chainOf, VC.look, VC.junk, VC.put, VC.eff, VC.callee, VC.pureB, VC.rdK, VC.rdKs, VC.okKs, VC.eqKs, VC.fillL, VC.putL, VC.stW, VC.stOK, VC.mixF, VC.setAll, Nat.reduceAdd, Nat.reduceSub, Nat.reduceMul, if_true, if_false, ↓reduceIte, forall_const, implies_true, reduceCtorEq, ne_eq, Nat.reduceBNe, Nat.reduceBEq, IntKind.signed, Nat.reduceEqDiff, Nat.reduceLeDiff, Nat.reduceLT, eq_self, Int.reduceEq, Int.reduceLT, Int.reduceLE, Int.reduceAdd, Int.reduceSub, VC.regC_nil, VC.regC_cons, VC.regCK_eq, VC.callQ, VC.tailQ, VC.goCall, VC.chStep]
    refine CALLQ_of (v := .bool (later (s.cp x) (s.op i).b)) (fun _ wr _ => later2_any _ _ wr) ?_
    simp -dsimp only [Fa.F54, VC.Now, VC.vc_skip, VC.vc_ret, VC.vc_exit, VC.vc_block, VC.vc_cond, VC.vc_region, VC.lib, VC.regQ, VC.loopK, VC.reg, VC.opP, VC.pv, VC.thenF, VC.blkF, VC.retF, VC.resV, VC.oneV, VC.evo, VC.bin, VC.binI, VC.cmpI, VC.arithI, VC.ldv, VC.slv, VC.pickP, VC.holds, VC.chainOf, VC.look, VC.junk, VC.put, VC.eff, VC.callee, VC.pureB, VC.rdK, VC.rdKs, VC.okKs, VC.eqKs, VC.fillL, VC.putL, VC.stW, VC.stOK, VC.mixF, VC.setAll, Nat.reduceAdd, Nat.reduceSub, Nat.reduceMul, if_true, if_false, ↓reduceIte, forall_const, implies_true, reduceCtorEq, ne_eq, Nat.reduceBNe, Nat.reduceBEq, IntKind.signed, Nat.reduceEqDiff, Nat.reduceLeDiff, Nat.reduceLT, eq_self, Int.reduceEq, Int.reduceLT, Int.reduceLE, Int.reduceAdd, Int.reduceSub, VC.regC_nil, VC.regC_cons, VC.regCK_eq, VC.callQ, VC.tailQ, VC.goCall, VC.chStep]
    intro w8 hw8
    have st8 := stw.later hw8
    have bx8 := bx7.below hw8
    replace z2 := bx8.at (i := 2) rfl
    replace hsl := bx8.1
    rw [hx0] at z2
    by_cases ql : later (s.cp x) (s.op i).b = true
    · simp -dsimp only [Fa.F54, ql, rdI_of z2, z2, hsl, VC.Now, VC.vc, VC.lib, VC.regQ, VC.loopK, VC.reg, VC.opP, VC.pv, VC.thenF, VC.blkF, VC.retF, VC.resV, VC.oneV, VC.evo, VC.bin, VC.binI, VC.cmpI, VC.arithI, VC.ldv, VC.slv, VC.pickP, VC.holds, VC.chainOf, VC.look, VC.junk, VC.put, VC.eff, VC.callee, VC.pureB, VC.rdK, VC.rdKs, VC.okKs, VC.eqKs, VC.fillL, VC.putL, VC.stW, VC.stOK, VC.mixF, VC.setAll, Nat.reduceAdd, Nat.reduceSub, Nat.reduceMul, if_true, if_false, ↓reduceIte, forall_const, implies_true, reduceCtorEq, ne_eq, Nat.reduceBNe, Nat.reduceBEq, IntKind.signed, Nat.reduceEqDiff, Nat.reduceLeDiff, Nat.reduceLT, eq_self, Int.reduceEq, Int.reduceLT, Int.reduceLE, Int.reduceAdd, Int.reduceSub, VC.regC_nil, VC.regC_cons, VC.regCK_eq, VC.callQ, VC.tailQ, VC.goCall, VC.chStep]
      refine CALL_by (htop w8 hw8) fun e w9 hp => ⟨_, hp.1, ?_⟩
      obtain ⟨_, hw9⟩ := hp
      have st9a := (stw.later hw8).later hw9
      have hoa : OwnK w9 0 189 6 s.k a.vu (seqC (upd (unsP a s) i (unC (.slice A5 ((sn i).length + 1) c5) (s.op i))) s.k) := st9a.hp.get 3 rfl
      rw [eu2] at hoa
      have hia : (DMid n a s st sn x i (a.sv x) (st x) (apC (s.op i)) (unC (.slice A5 ((sn i).length + 1) c5) (s.op i)) (.slice A5 ((sn i).length + 1) c5) (sn i ++ [x]))[3]? = some (oOwn 189 6 s.k (.slice (some ⟨gu, 0, none⟩) s.k cgu) (seqC (upd (unsP a s) i (unC (.slice A5 ((sn i).length + 1) c5) (s.op i))) s.k)) := by rw [← eu2]; rfl
      have okA : stOK w9 ⟨gu, i * 6, none⟩ 0 [.int .i64 (s.cp x).n, .int .i64 (s.cp x).who, .int .i64 (s.cp x).val] := okSeq hoa hKu hi _ 0 (show 3 ≤ 6 by omega) (by intro v hv; simp at hv; rcases hv with rfl | rfl | rfl <;> rfl)
      have stA := setSeq3 st9a.hp 3 hia hKu hi (by decide) (.int .i64 (s.cp x).n) (.int .i64 (s.cp x).who) (.int .i64 (s.cp x).val)
      rw [upd_upd, upd_same, ← eu2] at stA
      have hguA := (hoa.lt (g := gu) rfl).2
      have st9 : St B (DMid n a s st sn x i (a.sv x) (st x) (opsP s i) (unsP a s i) (a.uv i) (sn i)) w (DMid n a s st sn x i (a.sv x) (st x) (apC (s.op i)) (unC (.slice A5 ((sn i).length + 1) c5) { s.op i with b := s.cp x }) (.slice A5 ((sn i).length + 1) c5) (sn i ++ [x])) (stW w9 ⟨gu, i * 6, none⟩ 0 [.int .i64 (s.cp x).n, .int .i64 (s.cp x).who, .int .i64 (s.cp x).val]) := st9a.trans stA
      have bx9 := ((bx7.below hw8).below hw9).agree stA.agree nsb7
      have hb1 : (reach1 x s.cp (s.op i)).b = s.cp x := if_pos ⟨hsec, ql⟩
      have hbok : StoOK t (s.cp x) := hok.cp x
      rw [VC.Now, VC.seqK_eq]
      generalize hb1e : s.cp x = b1 at *
      have h9 := st9.hp
      have hbm9 : Box (stW w9 ⟨gu, i * 6, none⟩ 0 [.int .i64 b1.n, .int .i64 b1.who, .int .i64 b1.val]) a.mb (shelfC n a) := h9.get 0 rfl
      have hml9 := hbm9.1
      have m09 := hbm9.at (i := 0) rfl
      have m19 := hbm9.at (i := 1) rfl
      rw [eo2] at m19
      have hou9 : OwnK (stW w9 ⟨gu, i * 6, none⟩ 0 [.int .i64 b1.n, .int .i64 b1.who, .int .i64 b1.val]) 0 189 6 s.k a.vu (seqC (upd (unsP a s) i (unC (.slice A5 ((sn i).length + 1) c5) { s.op i with b := b1 })) s.k) := h9.get 3 rfl
      rw [eu2] at hou9
      have hgu9 := (hou9.lt (g := gu) rfl).2
      have y49 := (OwnK.cellS hou9 (len_upd (P := unsP a s) (K := 6) (i := i) (k := s.k) (c := (unC (.slice A5 ((sn i).length + 1) c5) { s.op i with b := b1 })) (fun _ _ => rfl) rfl) hi (show 4 < 6 by omega) (by rw [upd_same]; rfl)).1
      have y39 := (OwnK.cellS hou9 (len_upd (P := unsP a s) (K := 6) (i := i) (k := s.k) (c := (unC (.slice A5 ((sn i).length + 1) c5) { s.op i with b := b1 })) (fun _ _ => rfl) rfl) hi (show 3 < 6 by omega) (by rw [upd_same]; rfl)).1
      have hoo9 : OwnK (stW w9 ⟨gu, i * 6, none⟩ 0 [.int .i64 b1.n, .int .i64 b1.who, .int .i64 b1.val]) 0 145 6 s.k a.vo (seqC (upd (opsP s) i (apC (s.op i))) s.k) := h9.get 2 rfl
      rw [eo2] at hoo9
      have hgo9 := (hoo9.lt (g := go) rfl).2
      change ((stW w9 ⟨gu, i * 6, none⟩ 0 [.int .i64 b1.n, .int .i64 b1.who, .int .i64 b1.val])).cell? _ = some (.int .i64 (if (s.op i).second = true then 2 else 1)) at y39
      rw [hsec] at y39
      simp only [Bool.false_eq_true, if_false] at y39
      have hl1 : st x = if (s.op i).second = true then st x ++ [(s.op i).b] else st x := (if_neg (by rw [hsec]; intro hh; cases hh)).symm
      by_cases q9 : 2 * ((s.op i).many + 1) ≤ n
      · have e9 : ((2 * ((sn i).length + 1 : Nat) : Int) ≤ n) = True := eq_true (hln.2 q9)
        simp -dsimp only [Fa.F54, hguA, stOK_one, stW_one, rdSA_of y49, rdSN_of y49, rdSC_of y49, y49, rdSA_of m09, rdSN_of m09, rdSC_of m09, m09, hml9, hgu9, e9, Int.toNat_natCast, Nat.zero_add, VC.Now, VC.vc, VC.lib, VC.regQ, VC.loopK, VC.reg, VC.opP, VC.pv, VC.thenF, VC.blkF, VC.retF, VC.resV, VC.oneV, VC.evo, VC.bin, VC.binI, VC.cmpI, VC.arithI, VC.ldv, VC.slv, VC.pickP, VC.holds, VC.chainOf, VC.look, VC.junk, VC.put, VC.eff, VC.callee, VC.pureB, VC.rdK, VC.rdKs, VC.okKs, VC.eqKs, VC.fillL, VC.putL, VC.mixF, VC.setAll, Nat.reduceAdd, Nat.reduceSub, Nat.reduceMul, if_true, if_false, ↓reduceIte, forall_const, implies_true, reduceCtorEq, ne_eq, Nat.reduceBNe, Nat.reduceBEq, IntKind.signed, Nat.reduceEqDiff, Nat.reduceLeDiff, Nat.reduceLT, eq_self, Int.reduceEq, Int.reduceLT, Int.reduceLE, Int.reduceAdd, Int.reduceSub, VC.regC_nil, VC.regC_cons, VC.regCK_eq, VC.callQ, VC.tailQ, VC.goCall, VC.chStep]
        refine ⟨okA, fits_i64 (by omega) (by omega), fun m => ?_⟩
        refine DPost.reach hx hi hbt hd (v1 := a.sv x) (v2 := .slice A5 ((sn i).length + 1) c5) (l1 := st x) (l2 := sn i ++ [x]) (o' := reach1 x s.cp (s.op i)) ?_ (if_pos q9) hl1 (by unfold snR; rw [if_pos (Or.inl q9)]) hr
        have := st9.drewN m
        unfold unC
        rw [hb1]
        exact this
      have e9 : ((2 * ((sn i).length + 1 : Nat) : Int) ≤ n) = False := eq_false fun hh => q9 (hln.1 hh)
      have hKu9 := len_upd (P := unsP a s) (K := 6) (i := i) (k := s.k) (c := unC (.slice A5 ((sn i).length + 1) c5) { s.op i with b := b1 }) (fun _ _ => rfl) rfl
      obtain ⟨c3o, f3o⟩ := OwnK.cellS hou9 hKu9 hi (show 3 < 6 by omega) (by rw [upd_same]; rfl)
      have kk3 : (((stW w9 ⟨gu, i * 6, none⟩ 0 [.int .i64 b1.n, .int .i64 b1.who, .int .i64 b1.val])).cell? ⟨gu, i * 6 + 3, none⟩).isSome = true := by rw [c3o]; rfl
      have hiu9 : (DMid n a s st sn x i (a.sv x) (st x) (apC (s.op i)) (unC (.slice A5 ((sn i).length + 1) c5) { s.op i with b := b1 }) (.slice A5 ((sn i).length + 1) c5) (sn i ++ [x]))[3]? = some (oOwn 189 6 s.k (.slice (some ⟨gu, 0, none⟩) s.k cgu) (seqC (upd (unsP a s) i (unC (.slice A5 ((sn i).length + 1) c5) { s.op i with b := b1 })) s.k)) := by rw [← eu2]; rfl
      have st10 : ∀ m, St B (DMid n a s st sn x i (a.sv x) (st x) (opsP s i) (unsP a s i) (a.uv i) (sn i)) w (DMid n a s st sn x i (a.sv x) (st x) (apC (s.op i)) (unC (.slice none 0 0) { s.op i with b := b1, second := true }) (.slice none 0 0) []) (((((stW w9 ⟨gu, i * 6, none⟩ 0 [.int .i64 b1.n, .int .i64 b1.who, .int .i64 b1.val])).drewN m).setCell ⟨gu, i * 6 + 3, none⟩ (.int .i64 2)).setCell ⟨gu, i * 6 + 4, none⟩ (.slice none 0 0)) := fun m => by
        have t1 := setSeq (h9.drewN m) 3 hiu9 hKu9 hi (show 3 < 6 by omega) (.int .i64 2)
        rw [upd_upd, upd_same] at t1
        have hK2 := len_upd (P := unsP a s) (K := 6) (i := i) (k := s.k) (c := (unC (.slice A5 ((sn i).length + 1) c5) { s.op i with b := b1 }).set 3 (.int .i64 2)) (fun _ _ => rfl) rfl
        have t2 := setSeq t1.hp 3 rfl hK2 hi (show 4 < 6 by omega) (.slice none 0 0)
        rw [upd_upd, upd_same] at t2
        have t3 := (t1.trans t2)
        rw [← eu2] at t3
        have t4 := t3.hp.st (o := oOwn 3 1 (sn i ++ [x]).length (.slice A5 ((sn i).length + 1) c5) (snL (sn i ++ [x]))) 5 rfl (o' := oOwn 3 1 0 (.slice none 0 0) []) (OwnK.nil _ _ _ _) (Agree.refl _ _) (Or.inr (fun g hg => by cases hg))
        exact ((st9.drewN m).trans t3).trans t4
      have hou10 : ∀ m, OwnK (((((stW w9 ⟨gu, i * 6, none⟩ 0 [.int .i64 b1.n, .int .i64 b1.who, .int .i64 b1.val])).drewN m).setCell ⟨gu, i * 6 + 3, none⟩ (.int .i64 2))) 0 189 6 s.k (.slice (some ⟨gu, 0, none⟩) s.k cgu) (seqC (upd (upd (unsP a s) i (unC (.slice A5 ((sn i).length + 1) c5) { s.op i with b := b1 })) i ((upd (unsP a s) i (unC (.slice A5 ((sn i).length + 1) c5) { s.op i with b := b1 }) i).set 3 (.int .i64 2))) s.k) := fun m => (setSeq (h9.drewN m) 3 hiu9 hKu9 hi (show 3 < 6 by omega) (.int .i64 2)).hp.get 3 rfl
      rw [upd_upd, upd_same] at hou10
      have hK10 := len_upd (P := unsP a s) (K := 6) (i := i) (k := s.k) (c := (unC (.slice A5 ((sn i).length + 1) c5) { s.op i with b := b1 }).set 3 (.int .i64 2)) (fun _ _ => rfl) rfl
      have c4o := fun m => (OwnK.cellS (hou10 m) hK10 hi (show 4 < 6 by omega) (by rw [upd_same]; rfl))
      have kk4 : ∀ m, (((((stW w9 ⟨gu, i * 6, none⟩ 0 [.int .i64 b1.n, .int .i64 b1.who, .int .i64 b1.val])).drewN m).setCell ⟨gu, i * 6 + 3, none⟩ (.int .i64 2)).cell? ⟨gu, i * 6 + 4, none⟩).isSome = true := fun m => by rw [(c4o m).1]; rfl
      have f4o := fun m => (c4o m).2
      have hgu10 : ∀ m, gu < ((((stW w9 ⟨gu, i * 6, none⟩ 0 [.int .i64 b1.n, .int .i64 b1.who, .int .i64 b1.val])).drewN m).setCell ⟨gu, i * 6 + 3, none⟩ (.int .i64 2)).heap.size := fun m => ((hou10 m).lt (g := gu) rfl).2
      have hbm11 : ∀ m, Box (((((stW w9 ⟨gu, i * 6, none⟩ 0 [.int .i64 b1.n, .int .i64 b1.who, .int .i64 b1.val])).drewN m).setCell ⟨gu, i * 6 + 3, none⟩ (.int .i64 2)).setCell ⟨gu, i * 6 + 4, none⟩ (.slice none 0 0)) a.mb (shelfC n a) := fun m => (st10 m).hp.get 0 rfl
      have hml11 := fun m => (hbm11 m).1
      have m1x := fun m => (hbm11 m).at (i := 1) rfl
      rw [eo2] at m1x
      have hoo11 : ∀ m, OwnK (((((stW w9 ⟨gu, i * 6, none⟩ 0 [.int .i64 b1.n, .int .i64 b1.who, .int .i64 b1.val])).drewN m).setCell ⟨gu, i * 6 + 3, none⟩ (.int .i64 2)).setCell ⟨gu, i * 6 + 4, none⟩ (.slice none 0 0)) 0 145 6 s.k a.vo (seqC (upd (opsP s) i (apC (s.op i))) s.k) := fun m => (st10 m).hp.get 2 rfl
      rw [eo2] at hoo11
      have hgo11 := fun m => ((hoo11 m).lt (g := go) rfl).2
      have w2x := fun m => (OwnK.cellS (hoo11 m) hKo hi (show 2 < 6 by omega) (v := .bool (s.op i).wr) (by rw [upd_same]; rfl)).1
      cases hwr : (s.op i).wr with
      | true =>
        rw [hwr] at w2x
        simp -dsimp only [Fa.F54, hguA, stOK_one, stW_one, rdSA_of y49, rdSN_of y49, rdSC_of y49, y49, rdSA_of m09, rdSN_of m09, rdSC_of m09, m09, rdI_of y39, y39, hml9, hgu9, e9, kk3, f3o, kk4, f4o, hgu10, fun m => rdSA_of (m1x m), fun m => rdSN_of (m1x m), fun m => rdSC_of (m1x m), m1x, fun m => rdB_of (w2x m), w2x, hml11, hgo11, Int.toNat_natCast, Nat.zero_add, VC.Now, VC.vc, VC.lib, VC.regQ, VC.loopK, VC.reg, VC.opP, VC.pv, VC.thenF, VC.blkF, VC.retF, VC.resV, VC.oneV, VC.evo, VC.bin, VC.binI, VC.cmpI, VC.arithI, VC.ldv, VC.slv, VC.pickP, VC.holds, VC.chainOf, VC.look, VC.junk, VC.put, VC.eff, VC.callee, VC.pureB, VC.rdK, VC.rdKs, VC.okKs, VC.eqKs, VC.fillL, VC.putL, VC.mixF, VC.setAll, Nat.reduceAdd, Nat.reduceSub, Nat.reduceMul, if_true, if_false, ↓reduceIte, forall_const, implies_true, reduceCtorEq, ne_eq, Nat.reduceBNe, Nat.reduceBEq, IntKind.signed, Nat.reduceEqDiff, Nat.reduceLeDiff, Nat.reduceLT, eq_self, Int.reduceEq, Int.reduceLT, Int.reduceLE, Int.reduceAdd, Int.reduceSub, VC.regC_nil, VC.regC_cons, VC.regCK_eq, VC.callQ, VC.tailQ, VC.goCall, VC.chStep]
        refine ⟨okA, fits_i64 (by omega) (by omega), fun m => ⟨⟨by omega, by omega⟩, ?_⟩⟩
        have nsbgu : ¬ sb = gu := fun e => nsb7 (foot_at (i := 3) rfl (show a.vu.ownBlock = some sb by rw [eu2, e]; rfl))
        have bx11 : Box (((((stW w9 ⟨gu, i * 6, none⟩ 0 [.int .i64 b1.n, .int .i64 b1.who, .int .i64 b1.val])).drewN m).setCell ⟨gu, i * 6 + 3, none⟩ (.int .i64 2)).setCell ⟨gu, i * 6 + 4, none⟩ (.slice none 0 0)) sb (callL c) := ((bx9.below (below_drewN (Below.refl _ _) m)).agree (Agree.setCell _ _ (X := fun l => l = gu) rfl) nsbgu).agree (Agree.setCell _ _ (X := fun l => l = gu) rfl) nsbgu
        replace st10 := st10 m
        replace hml11 := hml11 m
        replace m1x := m1x m
        replace hgo11 := hgo11 m
        replace hoo11 := hoo11 m
        clear hbm11 w2x hou10 c4o kk4 f4o hgu10
        generalize ((((stW w9 ⟨gu, i * 6, none⟩ 0 [.int .i64 b1.n, .int .i64 b1.who, .int .i64 b1.val])).drewN m).setCell ⟨gu, i * 6 + 3, none⟩ (.int .i64 2)).setCell ⟨gu, i * 6 + 4, none⟩ (.slice none 0 0) = w11 at st10 hml11 m1x hgo11 hoo11 bx11 ⊢
        have hou11 : OwnK w11 0 189 6 s.k a.vu (seqC (upd (unsP a s) i (unC (.slice none 0 0) { s.op i with b := b1, second := true })) s.k) := st10.hp.get 3 rfl
        rw [eu2] at hou11
        have hgu11 := (hou11.lt (g := gu) rfl).2
        have hKu11 := len_upd (P := unsP a s) (K := 6) (i := i) (k := s.k) (c := unC (.slice none 0 0) { s.op i with b := b1, second := true }) (fun _ _ => rfl) rfl
        have b0x := (OwnK.cellS hou11 hKu11 hi (show 0 < 6 by omega) (v := .int .i64 b1.n) (by rw [upd_same]; rfl)).1
        simp only [Nat.add_zero] at b0x
        have o3x := (OwnK.cellS hoo11 hKo hi (show 3 < 6 by omega) (v := .int .i64 (s.op i).val) (by rw [upd_same]; rfl)).1
        have zz1 := bx11.at (i := 1) rfl
        rw [hj] at zz1
        have hsl11 := bx11.1
        obtain ⟨hb0, hb2⟩ := hbok
        have hiu11 : (DMid n a s st sn x i (a.sv x) (st x) (apC (s.op i)) (unC (.slice none 0 0) { s.op i with b := b1, second := true }) (.slice none 0 0) [])[3]? = some (oOwn 189 6 s.k (.slice (some ⟨gu, 0, none⟩) s.k cgu) (seqC (upd (unsP a s) i (unC (.slice none 0 0) { s.op i with b := b1, second := true })) s.k)) := by rw [← eu2]; rfl
        have okB : stOK (w11.drewN 1) ⟨gu, i * 6, none⟩ 0 [.int .i64 (b1.n + 1), .int .i64 j, .int .i64 (s.op i).val] := okSeq (hou11.drewN 1) hKu11 hi _ 0 (show 3 ≤ 6 by omega) (by intro v hv; simp at hv; rcases hv with rfl | rfl | rfl <;> rfl)
        have stB' := setSeq3 (st10.hp.drewN 1) 3 hiu11 hKu11 hi (by decide) (.int .i64 (b1.n + 1)) (.int .i64 j) (.int .i64 (s.op i).val)
        rw [upd_upd, upd_same, ← eu2] at stB'
        refine WP_held 20 (fun _ => False) (.take 0 (.take 1 (.take 2 (.take 3 (.take 4 (.take 5 (.take 6 (.take 7 (.take 8 (.take 9 (.take 10 (.take 11 (.take 12 (.take 13 (.take 14 (.take 15 (.take 16 (.take 17 (.one 18 (.take 19 (.one 20 .done))))))))))))))))))))) Fa.mix (by kernel_rfl) rfl ?_
        simp -dsimp only [VC.heldF_done, VC.heldF_last, VC.planF_done, VC.planF_take, VC.planF_one, VC.planF_two, VC.planK_eq, VC.heldF_take, VC.heldF_one, VC.heldF_two, VC.heldF_twoL, VC.heldK_eq, VC.okRd, Fa.F54, rdSA_of m1x, rdSN_of m1x, rdSC_of m1x, m1x, rdI_of b0x, b0x, rdI_of o3x, o3x, rdI_of zz1, zz1, hml11, hgo11, hgu11, hsl11, Int.toNat_natCast, Nat.zero_add, VC.Now, VC.vc, VC.lib, VC.regQ, VC.loopK, VC.reg, VC.opP, VC.pv, VC.thenF, VC.blkF, VC.retF, VC.resV, VC.oneV, VC.evo, VC.bin, VC.binI, VC.cmpI, VC.arithI, VC.ldv, VC.slv, VC.pickP, VC.holds, VC.chainOf, VC.look, VC.junk, VC.put, VC.eff, VC.callee, VC.pureB, VC.rdK, VC.rdKs, VC.okKs, VC.eqKs, VC.fillL, VC.putL, VC.mixF, VC.setAll, Nat.reduceAdd, Nat.reduceSub, Nat.reduceMul, if_true, if_false, ↓reduceIte, forall_const, implies_true, reduceCtorEq, ne_eq, Nat.reduceBNe, Nat.reduceBEq, IntKind.signed, Nat.reduceEqDiff, Nat.reduceLeDiff, Nat.reduceLT, eq_self, Int.reduceEq, Int.reduceLT, Int.reduceLE, Int.reduceAdd, Int.reduceSub, VC.regC_nil, VC.regC_cons, VC.regCK_eq, VC.callQ, VC.tailQ, VC.goCall, VC.chStep]
        refine ⟨fits_i64 (by omega) (by omega), ⟨by omega, by omega⟩, Agree.of_below (below_drewN (Below.refl _ w11) 1), okB, ?_⟩
        refine DPost.reach hx hi hbt hd (v1 := a.sv x) (v2 := .slice none 0 0) (l1 := st x) (l2 := []) (o' := { reach1 x s.cp (s.op i) with second := true, seen := 0, many := 0, b := if (s.op i).wr = true then ⟨(reach1 x s.cp (s.op i)).b.n + 1, (s.op i).who, (s.op i).val⟩ else (reach1 x s.cp (s.op i)).b }) ?_ ((if_neg q9).trans (if_neg (by show ¬ (s.op i).second = true; rw [hsec]; intro hh; cases hh))) hl1 (by unfold snR; rw [if_neg (by rw [hsec]; intro hh; exact hh.elim q9 (fun h => by cases h))]) hr
        have := (st10.drewN 1).trans stB'
        show St _ _ _ (DMid n a s st sn x i _ _ _ [.int .i64 (if (s.op i).wr = true then (⟨(reach1 x s.cp (s.op i)).b.n + 1, (s.op i).who, (s.op i).val⟩ : Sto) else (reach1 x s.cp (s.op i)).b).n, .int .i64 (if (s.op i).wr = true then (⟨(reach1 x s.cp (s.op i)).b.n + 1, (s.op i).who, (s.op i).val⟩ : Sto) else (reach1 x s.cp (s.op i)).b).who, .int .i64 (if (s.op i).wr = true then (⟨(reach1 x s.cp (s.op i)).b.n + 1, (s.op i).who, (s.op i).val⟩ : Sto) else (reach1 x s.cp (s.op i)).b).val, .int .i64 2, .slice none 0 0, .int .i64 0] _ _) _
        rw [if_pos hwr, hb1, hwho]
        exact this
      | false =>
        rw [hwr] at w2x
        simp -dsimp only [Fa.F54, hguA, stOK_one, stW_one, rdSA_of y49, rdSN_of y49, rdSC_of y49, y49, rdSA_of m09, rdSN_of m09, rdSC_of m09, m09, rdI_of y39, y39, hml9, hgu9, e9, kk3, f3o, kk4, f4o, hgu10, fun m => rdSA_of (m1x m), fun m => rdSN_of (m1x m), fun m => rdSC_of (m1x m), m1x, fun m => rdB_of (w2x m), w2x, hml11, hgo11, Int.toNat_natCast, Nat.zero_add, VC.Now, VC.vc, VC.lib, VC.regQ, VC.loopK, VC.reg, VC.opP, VC.pv, VC.thenF, VC.blkF, VC.retF, VC.resV, VC.oneV, VC.evo, VC.bin, VC.binI, VC.cmpI, VC.arithI, VC.ldv, VC.slv, VC.pickP, VC.holds, VC.chainOf, VC.look, VC.junk, VC.put, VC.eff, VC.callee, VC.pureB, VC.rdK, VC.rdKs, VC.okKs, VC.eqKs, VC.fillL, VC.putL, VC.mixF, VC.setAll, Nat.reduceAdd, Nat.reduceSub, Nat.reduceMul, if_true, if_false, ↓reduceIte, forall_const, implies_true, reduceCtorEq, ne_eq, Nat.reduceBNe, Nat.reduceBEq, IntKind.signed, Nat.reduceEqDiff, Nat.reduceLeDiff, Nat.reduceLT, eq_self, Int.reduceEq, Int.reduceLT, Int.reduceLE, Int.reduceAdd, Int.reduceSub, VC.regC_nil, VC.regC_cons, VC.regCK_eq, VC.callQ, VC.tailQ, VC.goCall, VC.chStep]
        refine ⟨okA, fits_i64 (by omega) (by omega), fun m => ⟨⟨by omega, by omega⟩, ?_⟩⟩
        refine DPost.reach hx hi hbt hd (v1 := a.sv x) (v2 := .slice none 0 0) (l1 := st x) (l2 := []) (o' := { reach1 x s.cp (s.op i) with second := true, seen := 0, many := 0, b := if (s.op i).wr = true then ⟨(reach1 x s.cp (s.op i)).b.n + 1, (s.op i).who, (s.op i).val⟩ else (reach1 x s.cp (s.op i)).b }) ?_ ((if_neg q9).trans (if_neg (by show ¬ (s.op i).second = true; rw [hsec]; intro hh; cases hh))) hl1 (by unfold snR; rw [if_neg (by rw [hsec]; intro hh; exact hh.elim q9 (fun h => by cases h))]) hr
        have := st10 m
        show St _ _ _ (DMid n a s st sn x i _ _ _ [.int .i64 (if (s.op i).wr = true then (⟨(reach1 x s.cp (s.op i)).b.n + 1, (s.op i).who, (s.op i).val⟩ : Sto) else (reach1 x s.cp (s.op i)).b).n, .int .i64 (if (s.op i).wr = true then (⟨(reach1 x s.cp (s.op i)).b.n + 1, (s.op i).who, (s.op i).val⟩ : Sto) else (reach1 x s.cp (s.op i)).b).who, .int .i64 (if (s.op i).wr = true then (⟨(reach1 x s.cp (s.op i)).b.n + 1, (s.op i).who, (s.op i).val⟩ : Sto) else (reach1 x s.cp (s.op i)).b).val, .int .i64 2, .slice none 0 0, .int .i64 0] _ _) _
        rw [if_neg (by rw [hwr]; intro hh; cases hh), hb1]
        exact this
    · have hb1 : (reach1 x s.cp (s.op i)).b = (s.op i).b := if_neg (fun hh => ql hh.2)
      obtain ⟨b1, hb1e⟩ : ∃ b1, b1 = (s.op i).b := ⟨_, rfl⟩
      rw [← hb1e] at hb1
      have st9 : St B (DMid n a s st sn x i (a.sv x) (st x) (opsP s i) (unsP a s i) (a.uv i) (sn i)) w (DMid n a s st sn x i (a.sv x) (st x) (apC (s.op i)) (unC (.slice A5 ((sn i).length + 1) c5) { s.op i with b := b1 }) (.slice A5 ((sn i).length + 1) c5) (sn i ++ [x])) w8 := by rw [hb1e]; exact stw.later hw8
      have bx9 := bx8
      have hbok : StoOK t b1 := by rw [hb1e]; exact (hok.op i hi).b
      have h9 := st9.hp
      have hbm9 : Box w8 a.mb (shelfC n a) := h9.get 0 rfl
      have hml9 := hbm9.1
      have m09 := hbm9.at (i := 0) rfl
      have m19 := hbm9.at (i := 1) rfl
      rw [eo2] at m19
      have hou9 : OwnK w8 0 189 6 s.k a.vu (seqC (upd (unsP a s) i (unC (.slice A5 ((sn i).length + 1) c5) { s.op i with b := b1 })) s.k) := h9.get 3 rfl
      rw [eu2] at hou9
      have hgu9 := (hou9.lt (g := gu) rfl).2
      have y49 := (OwnK.cellS hou9 (len_upd (P := unsP a s) (K := 6) (i := i) (k := s.k) (c := (unC (.slice A5 ((sn i).length + 1) c5) { s.op i with b := b1 })) (fun _ _ => rfl) rfl) hi (show 4 < 6 by omega) (by rw [upd_same]; rfl)).1
      have y39 := (OwnK.cellS hou9 (len_upd (P := unsP a s) (K := 6) (i := i) (k := s.k) (c := (unC (.slice A5 ((sn i).length + 1) c5) { s.op i with b := b1 })) (fun _ _ => rfl) rfl) hi (show 3 < 6 by omega) (by rw [upd_same]; rfl)).1
      have hoo9 : OwnK w8 0 145 6 s.k a.vo (seqC (upd (opsP s) i (apC (s.op i))) s.k) := h9.get 2 rfl
      rw [eo2] at hoo9
      have hgo9 := (hoo9.lt (g := go) rfl).2
      change (w8).cell? _ = some (.int .i64 (if (s.op i).second = true then 2 else 1)) at y39
      rw [hsec] at y39
      simp only [Bool.false_eq_true, if_false] at y39
      have hl1 : st x = if (s.op i).second = true then st x ++ [(s.op i).b] else st x := (if_neg (by rw [hsec]; intro hh; cases hh)).symm
      by_cases q9 : 2 * ((s.op i).many + 1) ≤ n
      · have e9 : ((2 * ((sn i).length + 1 : Nat) : Int) ≤ n) = True := eq_true (hln.2 q9)
        simp -dsimp only [Fa.F54, ql, rdSA_of y49, rdSN_of y49, rdSC_of y49, y49, rdSA_of m09, rdSN_of m09, rdSC_of m09, m09, hml9, hgu9, e9, Int.toNat_natCast, Nat.zero_add, VC.Now, VC.vc, VC.lib, VC.regQ, VC.loopK, VC.reg, VC.opP, VC.pv, VC.thenF, VC.blkF, VC.retF, VC.resV, VC.oneV, VC.evo, VC.bin, VC.binI, VC.cmpI, VC.arithI, VC.ldv, VC.slv, VC.pickP, VC.holds, VC.chainOf, VC.look, VC.junk, VC.put, VC.eff, VC.callee, VC.pureB, VC.rdK, VC.rdKs, VC.okKs, VC.eqKs, VC.fillL, VC.putL, VC.stW, VC.stOK, VC.mixF, VC.setAll, Nat.reduceAdd, Nat.reduceSub, Nat.reduceMul, if_true, if_false, ↓reduceIte, forall_const, implies_true, reduceCtorEq, ne_eq, Nat.reduceBNe, Nat.reduceBEq, IntKind.signed, Nat.reduceEqDiff, Nat.reduceLeDiff, Nat.reduceLT, eq_self, Int.reduceEq, Int.reduceLT, Int.reduceLE, Int.reduceAdd, Int.reduceSub, VC.regC_nil, VC.regC_cons, VC.regCK_eq, VC.callQ, VC.tailQ, VC.goCall, VC.chStep]
        refine ⟨fits_i64 (by omega) (by omega), fun m => ?_⟩
        refine DPost.reach hx hi hbt hd (v1 := a.sv x) (v2 := .slice A5 ((sn i).length + 1) c5) (l1 := st x) (l2 := sn i ++ [x]) (o' := reach1 x s.cp (s.op i)) ?_ (if_pos q9) hl1 (by unfold snR; rw [if_pos (Or.inl q9)]) hr
        have := st9.drewN m
        unfold unC
        rw [hb1]
        exact this
      have e9 : ((2 * ((sn i).length + 1 : Nat) : Int) ≤ n) = False := eq_false fun hh => q9 (hln.1 hh)
      have hKu9 := len_upd (P := unsP a s) (K := 6) (i := i) (k := s.k) (c := unC (.slice A5 ((sn i).length + 1) c5) { s.op i with b := b1 }) (fun _ _ => rfl) rfl
      obtain ⟨c3o, f3o⟩ := OwnK.cellS hou9 hKu9 hi (show 3 < 6 by omega) (by rw [upd_same]; rfl)
      have kk3 : ((w8).cell? ⟨gu, i * 6 + 3, none⟩).isSome = true := by rw [c3o]; rfl
      have hiu9 : (DMid n a s st sn x i (a.sv x) (st x) (apC (s.op i)) (unC (.slice A5 ((sn i).length + 1) c5) { s.op i with b := b1 }) (.slice A5 ((sn i).length + 1) c5) (sn i ++ [x]))[3]? = some (oOwn 189 6 s.k (.slice (some ⟨gu, 0, none⟩) s.k cgu) (seqC (upd (unsP a s) i (unC (.slice A5 ((sn i).length + 1) c5) { s.op i with b := b1 })) s.k)) := by rw [← eu2]; rfl
      have st10 : ∀ m, St B (DMid n a s st sn x i (a.sv x) (st x) (opsP s i) (unsP a s i) (a.uv i) (sn i)) w (DMid n a s st sn x i (a.sv x) (st x) (apC (s.op i)) (unC (.slice none 0 0) { s.op i with b := b1, second := true }) (.slice none 0 0) []) ((((w8).drewN m).setCell ⟨gu, i * 6 + 3, none⟩ (.int .i64 2)).setCell ⟨gu, i * 6 + 4, none⟩ (.slice none 0 0)) := fun m => by
        have t1 := setSeq (h9.drewN m) 3 hiu9 hKu9 hi (show 3 < 6 by omega) (.int .i64 2)
        rw [upd_upd, upd_same] at t1
        have hK2 := len_upd (P := unsP a s) (K := 6) (i := i) (k := s.k) (c := (unC (.slice A5 ((sn i).length + 1) c5) { s.op i with b := b1 }).set 3 (.int .i64 2)) (fun _ _ => rfl) rfl
        have t2 := setSeq t1.hp 3 rfl hK2 hi (show 4 < 6 by omega) (.slice none 0 0)
        rw [upd_upd, upd_same] at t2
        have t3 := (t1.trans t2)
        rw [← eu2] at t3
        have t4 := t3.hp.st (o := oOwn 3 1 (sn i ++ [x]).length (.slice A5 ((sn i).length + 1) c5) (snL (sn i ++ [x]))) 5 rfl (o' := oOwn 3 1 0 (.slice none 0 0) []) (OwnK.nil _ _ _ _) (Agree.refl _ _) (Or.inr (fun g hg => by cases hg))
        exact ((st9.drewN m).trans t3).trans t4
      have hou10 : ∀ m, OwnK ((((w8).drewN m).setCell ⟨gu, i * 6 + 3, none⟩ (.int .i64 2))) 0 189 6 s.k (.slice (some ⟨gu, 0, none⟩) s.k cgu) (seqC (upd (upd (unsP a s) i (unC (.slice A5 ((sn i).length + 1) c5) { s.op i with b := b1 })) i ((upd (unsP a s) i (unC (.slice A5 ((sn i).length + 1) c5) { s.op i with b := b1 }) i).set 3 (.int .i64 2))) s.k) := fun m => (setSeq (h9.drewN m) 3 hiu9 hKu9 hi (show 3 < 6 by omega) (.int .i64 2)).hp.get 3 rfl
      rw [upd_upd, upd_same] at hou10
      have hK10 := len_upd (P := unsP a s) (K := 6) (i := i) (k := s.k) (c := (unC (.slice A5 ((sn i).length + 1) c5) { s.op i with b := b1 }).set 3 (.int .i64 2)) (fun _ _ => rfl) rfl
      have c4o := fun m => (OwnK.cellS (hou10 m) hK10 hi (show 4 < 6 by omega) (by rw [upd_same]; rfl))
      have kk4 : ∀ m, ((((w8).drewN m).setCell ⟨gu, i * 6 + 3, none⟩ (.int .i64 2)).cell? ⟨gu, i * 6 + 4, none⟩).isSome = true := fun m => by rw [(c4o m).1]; rfl
      have f4o := fun m => (c4o m).2
      have hgu10 : ∀ m, gu < (((w8).drewN m).setCell ⟨gu, i * 6 + 3, none⟩ (.int .i64 2)).heap.size := fun m => ((hou10 m).lt (g := gu) rfl).2
      have hbm11 : ∀ m, Box ((((w8).drewN m).setCell ⟨gu, i * 6 + 3, none⟩ (.int .i64 2)).setCell ⟨gu, i * 6 + 4, none⟩ (.slice none 0 0)) a.mb (shelfC n a) := fun m => (st10 m).hp.get 0 rfl
      have hml11 := fun m => (hbm11 m).1
      have m1x := fun m => (hbm11 m).at (i := 1) rfl
      rw [eo2] at m1x
      have hoo11 : ∀ m, OwnK ((((w8).drewN m).setCell ⟨gu, i * 6 + 3, none⟩ (.int .i64 2)).setCell ⟨gu, i * 6 + 4, none⟩ (.slice none 0 0)) 0 145 6 s.k a.vo (seqC (upd (opsP s) i (apC (s.op i))) s.k) := fun m => (st10 m).hp.get 2 rfl
      rw [eo2] at hoo11
      have hgo11 := fun m => ((hoo11 m).lt (g := go) rfl).2
      have w2x := fun m => (OwnK.cellS (hoo11 m) hKo hi (show 2 < 6 by omega) (v := .bool (s.op i).wr) (by rw [upd_same]; rfl)).1
      cases hwr : (s.op i).wr with
      | true =>
        rw [hwr] at w2x
        simp -dsimp only [Fa.F54, ql, rdSA_of y49, rdSN_of y49, rdSC_of y49, y49, rdSA_of m09, rdSN_of m09, rdSC_of m09, m09, rdI_of y39, y39, hml9, hgu9, e9, kk3, f3o, kk4, f4o, hgu10, fun m => rdSA_of (m1x m), fun m => rdSN_of (m1x m), fun m => rdSC_of (m1x m), m1x, fun m => rdB_of (w2x m), w2x, hml11, hgo11, Int.toNat_natCast, Nat.zero_add, VC.Now, VC.vc, VC.lib, VC.regQ, VC.loopK, VC.reg, VC.opP, VC.pv, VC.thenF, VC.blkF, VC.retF, VC.resV, VC.oneV, VC.evo, VC.bin, VC.binI, VC.cmpI, VC.arithI, VC.ldv, VC.slv, VC.pickP, VC.holds, VC.chainOf, VC.look, VC.junk, VC.put, VC.eff, VC.callee, VC.pureB, VC.rdK, VC.rdKs, VC.okKs, VC.eqKs, VC.fillL, VC.putL, VC.stW, VC.stOK, VC.mixF, VC.setAll, Nat.reduceAdd, Nat.reduceSub, Nat.reduceMul, if_true, if_false, ↓reduceIte, forall_const, implies_true, reduceCtorEq, ne_eq, Nat.reduceBNe, Nat.reduceBEq, IntKind.signed, Nat.reduceEqDiff, Nat.reduceLeDiff, Nat.reduceLT, eq_self, Int.reduceEq, Int.reduceLT, Int.reduceLE, Int.reduceAdd, Int.reduceSub, VC.regC_nil, VC.regC_cons, VC.regCK_eq, VC.callQ, VC.tailQ, VC.goCall, VC.chStep]
        refine ⟨fits_i64 (by omega) (by omega), fun m => ⟨⟨by omega, by omega⟩, ?_⟩⟩
        have nsbgu : ¬ sb = gu := fun e => nsb7 (foot_at (i := 3) rfl (show a.vu.ownBlock = some sb by rw [eu2, e]; rfl))
        have bx11 : Box ((((w8).drewN m).setCell ⟨gu, i * 6 + 3, none⟩ (.int .i64 2)).setCell ⟨gu, i * 6 + 4, none⟩ (.slice none 0 0)) sb (callL c) := ((bx9.below (below_drewN (Below.refl _ _) m)).agree (Agree.setCell _ _ (X := fun l => l = gu) rfl) nsbgu).agree (Agree.setCell _ _ (X := fun l => l = gu) rfl) nsbgu
        replace st10 := st10 m
        replace hml11 := hml11 m
        replace m1x := m1x m
        replace hgo11 := hgo11 m
        replace hoo11 := hoo11 m
        clear hbm11 w2x hou10 c4o kk4 f4o hgu10
        generalize (((w8).drewN m).setCell ⟨gu, i * 6 + 3, none⟩ (.int .i64 2)).setCell ⟨gu, i * 6 + 4, none⟩ (.slice none 0 0) = w11 at st10 hml11 m1x hgo11 hoo11 bx11 ⊢
        have hou11 : OwnK w11 0 189 6 s.k a.vu (seqC (upd (unsP a s) i (unC (.slice none 0 0) { s.op i with b := b1, second := true })) s.k) := st10.hp.get 3 rfl
        rw [eu2] at hou11
        have hgu11 := (hou11.lt (g := gu) rfl).2
        have hKu11 := len_upd (P := unsP a s) (K := 6) (i := i) (k := s.k) (c := unC (.slice none 0 0) { s.op i with b := b1, second := true }) (fun _ _ => rfl) rfl
        have b0x := (OwnK.cellS hou11 hKu11 hi (show 0 < 6 by omega) (v := .int .i64 b1.n) (by rw [upd_same]; rfl)).1
        simp only [Nat.add_zero] at b0x
        have o3x := (OwnK.cellS hoo11 hKo hi (show 3 < 6 by omega) (v := .int .i64 (s.op i).val) (by rw [upd_same]; rfl)).1
        have zz1 := bx11.at (i := 1) rfl
        rw [hj] at zz1
        have hsl11 := bx11.1
        obtain ⟨hb0, hb2⟩ := hbok
        have hiu11 : (DMid n a s st sn x i (a.sv x) (st x) (apC (s.op i)) (unC (.slice none 0 0) { s.op i with b := b1, second := true }) (.slice none 0 0) [])[3]? = some (oOwn 189 6 s.k (.slice (some ⟨gu, 0, none⟩) s.k cgu) (seqC (upd (unsP a s) i (unC (.slice none 0 0) { s.op i with b := b1, second := true })) s.k)) := by rw [← eu2]; rfl
        have okB : stOK (w11.drewN 1) ⟨gu, i * 6, none⟩ 0 [.int .i64 (b1.n + 1), .int .i64 j, .int .i64 (s.op i).val] := okSeq (hou11.drewN 1) hKu11 hi _ 0 (show 3 ≤ 6 by omega) (by intro v hv; simp at hv; rcases hv with rfl | rfl | rfl <;> rfl)
        have stB' := setSeq3 (st10.hp.drewN 1) 3 hiu11 hKu11 hi (by decide) (.int .i64 (b1.n + 1)) (.int .i64 j) (.int .i64 (s.op i).val)
        rw [upd_upd, upd_same, ← eu2] at stB'
        refine WP_held 20 (fun _ => False) (.take 0 (.take 1 (.take 2 (.take 3 (.take 4 (.take 5 (.take 6 (.take 7 (.take 8 (.take 9 (.take 10 (.take 11 (.take 12 (.take 13 (.take 14 (.take 15 (.take 16 (.take 17 (.one 18 (.take 19 (.one 20 .done))))))))))))))))))))) Fa.mix (by kernel_rfl) rfl ?_
        simp -dsimp only [VC.heldF_done, VC.heldF_last, VC.planF_done, VC.planF_take, VC.planF_one, VC.planF_two, VC.planK_eq, VC.heldF_take, VC.heldF_one, VC.heldF_two, VC.heldF_twoL, VC.heldK_eq, VC.okRd, Fa.F54, rdSA_of m1x, rdSN_of m1x, rdSC_of m1x, m1x, rdI_of b0x, b0x, rdI_of o3x, o3x, rdI_of zz1, zz1, hml11, hgo11, hgu11, hsl11, Int.toNat_natCast, Nat.zero_add, VC.Now, VC.vc, VC.lib, VC.regQ, VC.loopK, VC.reg, VC.opP, VC.pv, VC.thenF, VC.blkF, VC.retF, VC.resV, VC.oneV, VC.evo, VC.bin, VC.binI, VC.cmpI, VC.arithI, VC.ldv, VC.slv, VC.pickP, VC.holds, VC.chainOf, VC.look, VC.junk, VC.put, VC.eff, VC.callee, VC.pureB, VC.rdK, VC.rdKs, VC.okKs, VC.eqKs, VC.fillL, VC.putL, VC.mixF, VC.setAll, Nat.reduceAdd, Nat.reduceSub, Nat.reduceMul, if_true, if_false, ↓reduceIte, forall_const, implies_true, reduceCtorEq, ne_eq, Nat.reduceBNe, Nat.reduceBEq, IntKind.signed, Nat.reduceEqDiff, Nat.reduceLeDiff, Nat.reduceLT, eq_self, Int.reduceEq, Int.reduceLT, Int.reduceLE, Int.reduceAdd, Int.reduceSub, VC.regC_nil, VC.regC_cons, VC.regCK_eq, VC.callQ, VC.tailQ, VC.goCall, VC.chStep]
        refine ⟨fits_i64 (by omega) (by omega), ⟨by omega, by omega⟩, Agree.of_below (below_drewN (Below.refl _ w11) 1), okB, ?_⟩
        refine DPost.reach hx hi hbt hd (v1 := a.sv x) (v2 := .slice none 0 0) (l1 := st x) (l2 := []) (o' := { reach1 x s.cp (s.op i) with second := true, seen := 0, many := 0, b := if (s.op i).wr = true then ⟨(reach1 x s.cp (s.op i)).b.n + 1, (s.op i).who, (s.op i).val⟩ else (reach1 x s.cp (s.op i)).b }) ?_ ((if_neg q9).trans (if_neg (by show ¬ (s.op i).second = true; rw [hsec]; intro hh; cases hh))) hl1 (by unfold snR; rw [if_neg (by rw [hsec]; intro hh; exact hh.elim q9 (fun h => by cases h))]) hr
        have := (st10.drewN 1).trans stB'
        show St _ _ _ (DMid n a s st sn x i _ _ _ [.int .i64 (if (s.op i).wr = true then (⟨(reach1 x s.cp (s.op i)).b.n + 1, (s.op i).who, (s.op i).val⟩ : Sto) else (reach1 x s.cp (s.op i)).b).n, .int .i64 (if (s.op i).wr = true then (⟨(reach1 x s.cp (s.op i)).b.n + 1, (s.op i).who, (s.op i).val⟩ : Sto) else (reach1 x s.cp (s.op i)).b).who, .int .i64 (if (s.op i).wr = true then (⟨(reach1 x s.cp (s.op i)).b.n + 1, (s.op i).who, (s.op i).val⟩ : Sto) else (reach1 x s.cp (s.op i)).b).val, .int .i64 2, .slice none 0 0, .int .i64 0] _ _) _
        rw [if_pos hwr, hb1, hwho]
        exact this
      | false =>
        rw [hwr] at w2x
        simp -dsimp only [Fa.F54, ql, rdSA_of y49, rdSN_of y49, rdSC_of y49, y49, rdSA_of m09, rdSN_of m09, rdSC_of m09, m09, rdI_of y39, y39, hml9, hgu9, e9, kk3, f3o, kk4, f4o, hgu10, fun m => rdSA_of (m1x m), fun m => rdSN_of (m1x m), fun m => rdSC_of (m1x m), m1x, fun m => rdB_of (w2x m), w2x, hml11, hgo11, Int.toNat_natCast, Nat.zero_add, VC.Now, VC.vc, VC.lib, VC.regQ, VC.loopK, VC.reg, VC.opP, VC.pv, VC.thenF, VC.blkF, VC.retF, VC.resV, VC.oneV, VC.evo, VC.bin, VC.binI, VC.cmpI, VC.arithI, VC.ldv, VC.slv, VC.pickP, VC.holds, VC.chainOf, VC.look, VC.junk, VC.put, VC.eff, VC.callee, VC.pureB, VC.rdK, VC.rdKs, VC.okKs, VC.eqKs, VC.fillL, VC.putL, VC.stW, VC.stOK, VC.mixF, VC.setAll, Nat.reduceAdd, Nat.reduceSub, Nat.reduceMul, if_true, if_false, ↓reduceIte, forall_const, implies_true, reduceCtorEq, ne_eq, Nat.reduceBNe, Nat.reduceBEq, IntKind.signed, Nat.reduceEqDiff, Nat.reduceLeDiff, Nat.reduceLT, eq_self, Int.reduceEq, Int.reduceLT, Int.reduceLE, Int.reduceAdd, Int.reduceSub, VC.regC_nil, VC.regC_cons, VC.regCK_eq, VC.callQ, VC.tailQ, VC.goCall, VC.chStep]
        refine ⟨fits_i64 (by omega) (by omega), fun m => ⟨⟨by omega, by omega⟩, ?_⟩⟩
        refine DPost.reach hx hi hbt hd (v1 := a.sv x) (v2 := .slice none 0 0) (l1 := st x) (l2 := []) (o' := { reach1 x s.cp (s.op i) with second := true, seen := 0, many := 0, b := if (s.op i).wr = true then ⟨(reach1 x s.cp (s.op i)).b.n + 1, (s.op i).who, (s.op i).val⟩ else (reach1 x s.cp (s.op i)).b }) ?_ ((if_neg q9).trans (if_neg (by show ¬ (s.op i).second = true; rw [hsec]; intro hh; cases hh))) hl1 (by unfold snR; rw [if_neg (by rw [hsec]; intro hh; exact hh.elim q9 (fun h => by cases h))]) hr
        have := st10 m
        show St _ _ _ (DMid n a s st sn x i _ _ _ [.int .i64 (if (s.op i).wr = true then (⟨(reach1 x s.cp (s.op i)).b.n + 1, (s.op i).who, (s.op i).val⟩ : Sto) else (reach1 x s.cp (s.op i)).b).n, .int .i64 (if (s.op i).wr = true then (⟨(reach1 x s.cp (s.op i)).b.n + 1, (s.op i).who, (s.op i).val⟩ : Sto) else (reach1 x s.cp (s.op i)).b).who, .int .i64 (if (s.op i).wr = true then (⟨(reach1 x s.cp (s.op i)).b.n + 1, (s.op i).who, (s.op i).val⟩ : Sto) else (reach1 x s.cp (s.op i)).b).val, .int .i64 2, .slice none 0 0, .int .i64 0] _ _) _
        rw [if_neg (by rw [hwr]; intro hh; cases hh), hb1]
        exact this

theorem dstep_any {B n t : Nat} {a : DA} {s : RS} {st : Nat → List Sto} {sn : Nat → List Nat} {w : World} (h : Hp B (DObs n a s st sn) w) (hd : DRel t s st sn) (hok : ROK n t s) (hn : n ≤ 5) (ht : t ≤ 120) (c : Call) :
    Calls Try.prog 54 #[.pointer (some ⟨a.mb, 0, none⟩), callV c, .int .i64 t] w (DPost B n t a s st sn w (rstep n c t s)) := by
  by_cases h1 : (c.kind < 1 ∨ 3 < c.kind) ∨ (c.kind ≠ 3 ∧ (c.who < 0 ∨ 4 ≤ c.who)) ∨ (c.kind ≠ 1 ∧ (c.at_ < 0 ∨ n ≤ c.at_))
  · exact dstep_err h hd c h1
  · rcases (show c.kind = 1 ∨ c.kind = 2 ∨ c.kind = 3 by omega) with hk | hk | hk
    · exact dstep_begin h hd hok hn ht c hk (by omega)
    · exact dreachBut.2 dreach_cont B n t a s st sn w h hd hok hn ht c hk (by omega) (by omega)
    · exact dstep_late h hd hok ht c hk (by omega)
end Go.Proofs.Ytnggjekppdlaoaa
