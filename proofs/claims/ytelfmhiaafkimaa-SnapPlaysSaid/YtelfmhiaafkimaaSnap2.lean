/- A picture of what moves: a process notes. -/
import Derived.Test.YtelfmhiaafkimaaSnap1
namespace Go.Proofs.Ytelfmhiaafkimaa
open Go Go.RowKit Go.VC
set_option linter.unusedSimpArgs false
set_option linter.unusedVariables false
theorem ifc {p q : Prop} {ip : Decidable p} {iq : Decidable q} {α : Type} {x y : α} (h : p ↔ q) : (if p then x else y) = if q then x else y := by
  by_cases hp : p
  · rw [if_pos hp, if_pos (h.1 hp)]
  · rw [if_neg hp, if_neg (fun hq => hp (h.2 hq))]
open Classical in
/-- What is marked when some ways are still to come. -/
noncomputable def markQ (n i : Nat) (que : Nat → List Int) (left : Int × Int → Prop) : Nat → List Int := fun t => if (t / n = i ∧ t % n ≠ i) ∧ ¬ left (((t / n : Nat) : Int), ((t % n : Nat) : Int)) then que t ++ [-1] else que t
def pnote (n i : Nat) (p : NP) : NP := if p.own i = -1 then { p with own := upd p.own i (p.money i), que := fun t => if t / n = i ∧ t % n ≠ i then p.que t ++ [-1] else p.que t } else p
theorem NObs_congr {n : Nat} {a : NA} {p p' : NP} {v : NV} (h1 : p'.money = p.money) (h2 : p'.own = p.own) (h3 : ∀ t, t < n * n → p'.que t = p.que t) (h4 : p'.nts = p.nts) (h5 : p'.clo = p.clo) : NObs n a p' v = NObs n a p v := by
  unfold NObs
  rw [fam_congr (F := queF p' v) (G := queF p v) fun t ht => by unfold queF; rw [h3 t ht]]
  obtain ⟨m, o, q, nt, c⟩ := p
  obtain ⟨m', o', q', nt', c'⟩ := p'
  simp only at h1 h2 h4 h5
  subst h1; subst h2; subst h4; subst h5
  rfl
theorem tdiv {n a b : Nat} (ha : a < n) (hb : b < n) (t : Nat) : t = a * n + b ↔ t / n = a ∧ t % n = b := by
  constructor
  · rintro rfl; exact idx_div hb
  · rintro ⟨rfl, rfl⟩; rw [Nat.mul_comm]; exact (Nat.div_add_mod t n).symm
theorem markQ_take {n i b : Nat} {que : Nat → List Int} {left : Int × Int → Prop} (hi : i < n) (hb : b < n) (hne : i ≠ b) (hl : left ((i : Int), (b : Int))) :
    markQ n i que (fun y => left y ∧ y ≠ ((i : Int), (b : Int))) = upd (markQ n i que left) (i * n + b) (que (i * n + b) ++ [-1]) := by
  funext t
  by_cases e : t = i * n + b
  · subst e
    rw [upd_same]
    unfold markQ
    rw [(idx_div hb).1, (idx_div hb).2, if_pos ⟨⟨rfl, fun h => hne h.symm⟩, fun h => h.2 rfl⟩]
  · rw [upd_other e]
    unfold markQ
    have hn : ¬ (t / n = i ∧ t % n = b) := fun h => e ((tdiv hi hb t).2 h)
    have hx : (((t / n : Nat) : Int), ((t % n : Nat) : Int)) ≠ ((i : Int), (b : Int)) := fun h => hn ⟨by have := congrArg Prod.fst h; simp only at this; omega, by have := congrArg Prod.snd h; simp only at this; omega⟩
    exact ifc (and_congr_right fun _ => not_congr ⟨fun h => h.1, fun h => ⟨h, hx⟩⟩)
theorem markQ_skip {n i a b : Nat} {que : Nat → List Int} {left : Int × Int → Prop} (ha : a < n) (hb : b < n) (hne : a ≠ i) :
    markQ n i que (fun y => left y ∧ y ≠ ((a : Int), (b : Int))) = markQ n i que left := by
  funext t
  unfold markQ
  by_cases e : t / n = i
  · have hx : (((t / n : Nat) : Int), ((t % n : Nat) : Int)) ≠ ((a : Int), (b : Int)) := fun h => by have := congrArg Prod.fst h; simp only at this; omega
    exact ifc (and_congr_right fun _ => not_congr ⟨fun h => h.1, fun h => ⟨h, hx⟩⟩)
  · rw [if_neg (fun h => e h.1.1), if_neg (fun h => e h.1.1)]
section
variable {B n : Nat} {a : NA} {p : NP} {v : NV} {w : World}
set_option maxRecDepth 8000 in
set_option maxHeartbeats 4000000 in
theorem note_any (h : Hp B (NObs n a p v) w) {i : Nat} (hi : i < n) (hn : n ≤ 6) (hl : ∀ t, (p.que t).length ≤ 50000) :
    Calls Try.prog 93 #[ptrV a.wb, iV i] w fun e w' => e = .returned (.tuple #[]) ∧ ∃ v', St B (NObs n a p v) w (NObs n a (pnote n i p) v') w' ∧ v'.nv = v.nv := by
  refine calls_vc (rs := []) Fa.mix Try.func93 rfl Try.ntmps93 rfl (by kernel_rfl) (Nat.le_of_ble_eq_true rfl) ?_
  have bw : Box w a.wb [.slice (some ⟨a.gp, 0, none⟩) n a.gc, .map (some a.mb)] := h.get 0 rfl
  have m0 := bw.at (i := 0) rfl
  have hwl := bw.1
  have hR : Recs w a.gp n 2 (fun k => prL p k) := h.get 1 rfl
  have c0 := hR.at hi (j := 0) (by omega) rfl
  have c1 := hR.at hi (j := 1) (by omega) rfl
  rw [Nat.add_zero] at c0
  have d1 := hR.soft hi (j := 1) (by omega)
  have hgl := hR.1
  by_cases ho : p.own i = -1
  case neg =>
    have e1 : (p.own i = -1) = False := eq_false ho
    have hp : pnote n i p = p := by unfold pnote; rw [if_neg ho]
    rw [hp]
    simp -dsimp (maxSteps := 2000000) only [Fa.F93, rdSA_of m0, rdSN_of m0, rdSC_of m0, m0, rdI_of c1, c1, hwl, hgl, e1, Int.toNat_natCast, Nat.zero_add, VC.Now, VC.vc, VC.lib, VC.mapN_drewN, VC.mapB_drewN, VC.regQ, VC.loopK, VC.reg, VC.opP, VC.opS, VC.opZ, VC.nomulB, VC.pv, VC.thenF, VC.blkF, VC.retF, VC.resV, VC.oneV, VC.evo, VC.bin, VC.binI, VC.cmpI, VC.arithI, VC.ldv, VC.slv, VC.pickP, VC.holds, VC.chainOf, VC.look, VC.junk, VC.put, VC.eff, VC.callee, VC.pureB, VC.rdK, VC.rdKs, VC.okKs, VC.eqKs, VC.fillL, VC.putL, VC.stW, VC.stOK, VC.mixF, VC.setAll, Nat.reduceAdd, Nat.reduceSub, Nat.reduceMul, if_true, if_false, ↓reduceIte, forall_const, implies_true, reduceCtorEq, ne_eq, Nat.reduceBNe, Nat.reduceBEq, IntKind.signed, Nat.reduceEqDiff, Nat.reduceLeDiff, Nat.reduceLT, eq_self, Int.reduceEq, Int.reduceLT, Int.reduceLE, Int.reduceAdd, Int.reduceSub, VC.regC_nil, VC.regC_cons, VC.regCK_eq, VC.callQ, VC.tailQ, VC.goCall, VC.chStep]
    exact ⟨by omega, v, St.refl h, rfl⟩
  have e1 : (p.own i = -1) = True := eq_true ho
  have k1 : (w.cell? ⟨a.gp, i * 2 + 1, none⟩).isSome = true := by rw [c1]; rfl
  have st1 := NObs.mine h hi (p.money i)
  have bw1 : Box (w.setCell ⟨a.gp, i * 2 + 1, none⟩ (iV (p.money i))) a.wb [.slice (some ⟨a.gp, 0, none⟩) n a.gc, .map (some a.mb)] := st1.hp.get 0 rfl
  have m1 := bw1.at (i := 1) rfl
  have hwl1 := bw1.1
  simp -dsimp (maxSteps := 2000000) only [Fa.F93, rdSA_of m0, rdSN_of m0, rdSC_of m0, m0, rdI_of c0, c0, rdI_of c1, c1, hwl, hgl, e1, d1, k1, rdM_of m1, m1, hwl1, Int.toNat_natCast, Nat.zero_add, Nat.add_zero, VC.Now, VC.vc, VC.lib, VC.mapN_drewN, VC.mapB_drewN, VC.regQ, VC.loopK, VC.reg, VC.opP, VC.opS, VC.opZ, VC.nomulB, VC.pv, VC.thenF, VC.blkF, VC.retF, VC.resV, VC.oneV, VC.evo, VC.bin, VC.binI, VC.cmpI, VC.arithI, VC.ldv, VC.slv, VC.pickP, VC.holds, VC.chainOf, VC.look, VC.junk, VC.put, VC.eff, VC.callee, VC.pureB, VC.rdK, VC.rdKs, VC.okKs, VC.eqKs, VC.fillL, VC.putL, VC.stW, VC.stOK, VC.mixF, VC.setAll, Nat.reduceAdd, Nat.reduceSub, Nat.reduceMul, if_true, if_false, ↓reduceIte, forall_const, implies_true, reduceCtorEq, ne_eq, Nat.reduceBNe, Nat.reduceBEq, IntKind.signed, Nat.reduceEqDiff, Nat.reduceLeDiff, Nat.reduceLT, eq_self, Int.reduceEq, Int.reduceLT, Int.reduceLE, Int.reduceAdd, Int.reduceSub, VC.regC_nil, VC.regC_cons, VC.regCK_eq, VC.callQ, VC.tailQ, VC.goCall, VC.chStep]
  clear m0 hwl hR c0 c1 d1 hgl k1 bw
  refine ⟨by omega, ?_⟩
  have hh1 := st1.hp
  generalize w.setCell ⟨a.gp, i * 2 + 1, none⟩ (iV (p.money i)) = w1 at st1 hh1 bw1 m1 hwl1 ⊢
  have hM : MapV Try.prog EW w1 a.mb a.cnt (wayM n a.xb) := hh1.get 2 rfl
  refine OPW_rangeV hM rfl (by kernel_rfl) rfl fun w2 hRg hB2 hs2 => ?_
  rw [VC.Now, VC.seqK_eq]
  simp -dsimp (maxSteps := 2000000) only [Fa.F93, VC.Now, VC.vc, VC.lib, VC.mapN_drewN, VC.mapB_drewN, VC.regQ, VC.loopK, VC.reg, VC.opP, VC.opS, VC.opZ, VC.nomulB, VC.pv, VC.thenF, VC.blkF, VC.retF, VC.resV, VC.oneV, VC.evo, VC.bin, VC.binI, VC.cmpI, VC.arithI, VC.ldv, VC.slv, VC.pickP, VC.holds, VC.chainOf, VC.look, VC.junk, VC.put, VC.eff, VC.callee, VC.pureB, VC.rdK, VC.rdKs, VC.okKs, VC.eqKs, VC.fillL, VC.putL, VC.stW, VC.stOK, VC.mixF, VC.setAll, Nat.reduceAdd, Nat.reduceSub, Nat.reduceMul, if_true, if_false, ↓reduceIte, forall_const, implies_true, reduceCtorEq, ne_eq, Nat.reduceBNe, Nat.reduceBEq, IntKind.signed, Nat.reduceEqDiff, Nat.reduceLeDiff, Nat.reduceLT, eq_self, Int.reduceEq, Int.reduceLT, Int.reduceLE, Int.reduceAdd, Int.reduceSub, VC.regC_nil, VC.regC_cons, VC.regCK_eq, VC.callQ, VC.tailQ, VC.goCall, VC.chStep]
  have hfr : ∀ g : Nat, foot (NObs n a { p with own := upd p.own i (p.money i) } v) g → g ≠ w1.heap.size := fun g hg e => by have := (hh1.foot_lt hg).2; omega
  have st2 := st1.later hB2
  have hrl : w1.heap.size < w2.heap.size := by omega
  have hrw : w.heap.size ≤ w1.heap.size := st1.agree.size
  clear hM hh1 bw1 m1 hwl1 hB2 hs2 st1
  generalize w1.heap.size = rr at hRg hfr hrl hrw ⊢
  obtain ⟨P0, hP0⟩ : ∃ P0 : NP, P0 = { p with own := upd p.own i (p.money i) } := ⟨_, rfl⟩
  have hq0 : ∀ t, t < n * n → (markQ n i p.que fun x => (wayM n a.xb x).isSome = true) t = p.que t := fun t ht => by
    unfold markQ
    rw [if_neg]
    rintro ⟨⟨h1, h2⟩, h3⟩
    have hn0 : 0 < n := by omega
    have h4 : t % n < n := Nat.mod_lt _ hn0
    rw [h1] at h3
    exact h3 (show (wayM n a.xb ((i : Int), ((t % n : Nat) : Int))).isSome = true by rw [wayM_at hi h4 (fun e => h2 e.symm)]; rfl)
  refine loop_slots Fa.mix [] [5, 6, 30, 31, 32, 33, 34, 35, 36, 37, 38, 39, 40, 41, 42, 43, 44, 45, 46, 47] (fun m vs wr => ∃ (left : Int × Int → Prop) (v' : NV), vs = [] ∧ RangeV Try.prog EW wr a.mb rr a.cnt (wayM n a.xb) left m ∧ St B (NObs n a p v) w (NObs n a { P0 with que := markQ n i p.que left } v') wr ∧ v'.nv = v.nv ∧ (∀ g : Nat, foot (NObs n a { P0 with que := markQ n i p.que left } v') g → g ≠ rr) ∧ rr < wr.heap.size) a.cnt (by kernel_rfl) rfl
    ⟨_, v, rfl, hRg, ?_, rfl, ?_, hrl⟩ ?_
  · have := st2
    rw [← hP0, ← NObs_congr (p := P0) (p' := { P0 with que := markQ n i p.que fun x => (wayM n a.xb x).isSome = true }) rfl rfl (by rw [hP0]; exact hq0) rfl rfl] at this
    exact this
  · rw [NObs_congr (p := P0) (p' := { P0 with que := markQ n i p.que fun x => (wayM n a.xb x).isSome = true }) rfl rfl (by rw [hP0]; exact hq0) rfl rfl, hP0]
    exact hfr
  clear hRg hfr hrl st2 hq0
  rintro m vs u2 wr ⟨left, v', rfl, hRg, st, hnv, hfr, hrl⟩
  have hH := st.hp
  simp -dsimp (maxSteps := 2000000) only [Fa.F93, VC.Now, VC.vc, VC.lib, VC.mapN_drewN, VC.mapB_drewN, VC.regQ, VC.loopK, VC.reg, VC.opP, VC.opS, VC.opZ, VC.nomulB, VC.pv, VC.thenF, VC.blkF, VC.retF, VC.resV, VC.oneV, VC.evo, VC.bin, VC.binI, VC.cmpI, VC.arithI, VC.ldv, VC.slv, VC.pickP, VC.holds, VC.chainOf, VC.look, VC.junk, VC.put, VC.eff, VC.callee, VC.pureB, VC.rdK, VC.rdKs, VC.okKs, VC.eqKs, VC.fillL, VC.putL, VC.stW, VC.stOK, VC.mixF, VC.setAll, Nat.reduceAdd, Nat.reduceSub, Nat.reduceMul, if_true, if_false, ↓reduceIte, forall_const, implies_true, reduceCtorEq, ne_eq, Nat.reduceBNe, Nat.reduceBEq, IntKind.signed, Nat.reduceEqDiff, Nat.reduceLeDiff, Nat.reduceLT, eq_self, Int.reduceEq, Int.reduceLT, Int.reduceLE, Int.reduceAdd, Int.reduceSub, VC.regC_nil, VC.regC_cons, VC.regCK_eq, VC.callQ, VC.tailQ, VC.goCall, VC.chStep]
  refine OPW_nextV hRg rfl rfl (fun h0 hno => ?_) (fun x vx w3 cnt' hx hlx hmx hRg3 hlt hA3 hs3 hE => ?_)
  · rw [VC.Now, VC.seqK_eq]
    simp -dsimp (maxSteps := 2000000) only [Fa.F93, VC.Now, VC.vc, VC.lib, VC.mapN_drewN, VC.mapB_drewN, VC.regQ, VC.loopK, VC.reg, VC.opP, VC.opS, VC.opZ, VC.nomulB, VC.pv, VC.thenF, VC.blkF, VC.retF, VC.resV, VC.oneV, VC.evo, VC.bin, VC.binI, VC.cmpI, VC.arithI, VC.ldv, VC.slv, VC.pickP, VC.holds, VC.chainOf, VC.look, VC.junk, VC.put, VC.eff, VC.callee, VC.pureB, VC.rdK, VC.rdKs, VC.okKs, VC.eqKs, VC.fillL, VC.putL, VC.stW, VC.stOK, VC.mixF, VC.setAll, Nat.reduceAdd, Nat.reduceSub, Nat.reduceMul, if_true, if_false, ↓reduceIte, forall_const, implies_true, reduceCtorEq, ne_eq, Nat.reduceBNe, Nat.reduceBEq, IntKind.signed, Nat.reduceEqDiff, Nat.reduceLeDiff, Nat.reduceLT, eq_self, Int.reduceEq, Int.reduceLT, Int.reduceLE, Int.reduceAdd, Int.reduceSub, VC.regC_nil, VC.regC_cons, VC.regCK_eq, VC.callQ, VC.tailQ, VC.goCall, VC.chStep]
    refine ⟨v', ?_, hnv⟩
    have e : pnote n i p = { p with own := upd p.own i (p.money i), que := fun t => if t / n = i ∧ t % n ≠ i then p.que t ++ [-1] else p.que t } := by unfold pnote; rw [if_pos ho]
    have st4 := st
    rw [← NObs_congr (p := { P0 with que := markQ n i p.que left }) (p' := pnote n i p) (by rw [e, hP0]) (by rw [e, hP0]) (fun t ht => by
      rw [e]
      show (if t / n = i ∧ t % n ≠ i then p.que t ++ [-1] else p.que t) = markQ n i p.que left t
      unfold markQ
      have hn0 : 0 < n := by omega
      have h4 : t % n < n := Nat.mod_lt _ hn0
      have h5 : t / n < n := Nat.div_lt_of_lt_mul ht
      exact ifc ⟨fun hh => ⟨hh, hno _ (EW_ok (by omega) (by omega))⟩, fun hh => hh.1⟩) (by rw [e, hP0]) (by rw [e, hP0])] at st4
    exact st4
  · obtain ⟨f, b, hf, hb, hfb, rfl, rfl⟩ := wayM_key hmx
    have hE' : EntryV Try.prog w3 rr (.agg #[.int .i64 f, .int .i64 b]) (ptrV (a.xb (f * n + b))) := hE
    have st3 : St B (NObs n a p v) w (NObs n a { P0 with que := markQ n i p.que left } v') w3 := ⟨hH.agree hA3 fun g hg e => hfr g hg e, st.agree.trans' hA3 fun j hj e => absurd hj (by omega), st.foot⟩
    rw [VC.Now, VC.seqK_eq]
    simp -dsimp (maxSteps := 2000000) only [Fa.F93, VC.Now, VC.vc, VC.lib, VC.mapN_drewN, VC.mapB_drewN, VC.regQ, VC.loopK, VC.reg, VC.opP, VC.opS, VC.opZ, VC.nomulB, VC.pv, VC.thenF, VC.blkF, VC.retF, VC.resV, VC.oneV, VC.evo, VC.bin, VC.binI, VC.cmpI, VC.arithI, VC.ldv, VC.slv, VC.pickP, VC.holds, VC.chainOf, VC.look, VC.junk, VC.put, VC.eff, VC.callee, VC.pureB, VC.rdK, VC.rdKs, VC.okKs, VC.eqKs, VC.fillL, VC.putL, VC.stW, VC.stOK, VC.mixF, VC.setAll, Nat.reduceAdd, Nat.reduceSub, Nat.reduceMul, if_true, if_false, ↓reduceIte, forall_const, implies_true, reduceCtorEq, ne_eq, Nat.reduceBNe, Nat.reduceBEq, IntKind.signed, Nat.reduceEqDiff, Nat.reduceLeDiff, Nat.reduceLT, eq_self, Int.reduceEq, Int.reduceLT, Int.reduceLE, Int.reduceAdd, Int.reduceSub, VC.regC_nil, VC.regC_cons, VC.regCK_eq, VC.callQ, VC.tailQ, VC.goCall, VC.chStep]
    refine OPW_entryV hE' rfl rfl ?_
    rw [VC.Now, VC.seqK_eq]
    obtain ⟨f1, f2, f3⟩ := boxMade w3 [iV 0, iV 0] [iV f, iV b] 154 rfl (by intro v hv; simp at hv; rcases hv with rfl | rfl <;> rfl)
    have ht := idx_lt hf hb
    have hd : (f * n + b) / n ≠ (f * n + b) % n := by rw [(idx_div hb).1, (idx_div hb).2]; exact hfb
    have hH3 := st3.hp.below f3
    have st3' := st3.later f3
    have hRg4 := hRg3.below f3
    have bxw := NObs.box hH3 ht hd
    have hQ := NObs.que hH3 ht
    have hkl : w3.heap.size ≠ rr := by omega
    have hrl4 := Nat.lt_of_lt_of_le (show rr < w3.heap.size by omega) f3.size
    have k0 := f2.at (i := 0) rfl
    by_cases hfi : f = i
    case neg =>
      have e5 : ((f : Int) = i) = False := eq_false (by omega)
      simp -dsimp (maxSteps := 2000000) only [Fa.F93, rdI_of k0, k0, e5, VC.Now, VC.vc, VC.lib, VC.mapN_drewN, VC.mapB_drewN, VC.regQ, VC.loopK, VC.reg, VC.opP, VC.opS, VC.opZ, VC.nomulB, VC.pv, VC.thenF, VC.blkF, VC.retF, VC.resV, VC.oneV, VC.evo, VC.bin, VC.binI, VC.cmpI, VC.arithI, VC.ldv, VC.slv, VC.pickP, VC.holds, VC.chainOf, VC.look, VC.junk, VC.put, VC.eff, VC.callee, VC.pureB, VC.rdK, VC.rdKs, VC.okKs, VC.eqKs, VC.fillL, VC.putL, VC.mixF, VC.setAll, Nat.reduceAdd, Nat.reduceSub, Nat.reduceMul, if_true, if_false, ↓reduceIte, forall_const, implies_true, reduceCtorEq, ne_eq, Nat.reduceBNe, Nat.reduceBEq, IntKind.signed, Nat.reduceEqDiff, Nat.reduceLeDiff, Nat.reduceLT, eq_self, Int.reduceEq, Int.reduceLT, Int.reduceLE, Int.reduceAdd, Int.reduceSub, VC.regC_nil, VC.regC_cons, VC.regCK_eq, VC.callQ, VC.tailQ, VC.goCall, VC.chStep]
      refine ⟨f1, by decide, SAME.intro (by kernel_rfl), cnt', hlt, fun y => left y ∧ y ≠ ((f : Int), (b : Int)), v', ?_⟩
      rw [markQ_skip hf hb hfi]
      exact ⟨hRg4, st3', hnv, hfr, hrl4⟩
    subst hfi
    have e5 : ((f : Int) = f) = True := eq_true rfl
    obtain ⟨Aq, cq, eqv, _⟩ : ∃ A c, v'.qv (f * n + b) = .slice A ((markQ n f p.que left (f * n + b)).map iV).length c ∧ True := by obtain ⟨A, c, e⟩ := hQ.form; exact ⟨A, c, e, trivial⟩
    have hmk : markQ n f p.que left (f * n + b) = p.que (f * n + b) := by
      unfold markQ
      rw [if_neg]
      rw [(idx_div hb).1, (idx_div hb).2]
      exact fun hh => hh.2 hlx
    have hmk' : ({ P0 with que := markQ n f p.que left } : NP).que (f * n + b) = p.que (f * n + b) := hmk
    rw [hmk'] at hQ
    have bx0 := bxw
    rw [eqv] at bxw
    have q0 := bxw.at (i := 0) rfl
    have hxl := bxw.1
    simp -dsimp (maxSteps := 2000000) only [Fa.F93, rdI_of k0, k0, rdSA_of q0, rdSN_of q0, rdSC_of q0, q0, e5, hxl, VC.Now, VC.vc, VC.lib, VC.mapN_drewN, VC.mapB_drewN, VC.regQ, VC.loopK, VC.reg, VC.opP, VC.opS, VC.opZ, VC.nomulB, VC.pv, VC.thenF, VC.blkF, VC.retF, VC.resV, VC.oneV, VC.evo, VC.bin, VC.binI, VC.cmpI, VC.arithI, VC.ldv, VC.slv, VC.pickP, VC.holds, VC.chainOf, VC.look, VC.junk, VC.put, VC.eff, VC.callee, VC.pureB, VC.rdK, VC.rdKs, VC.okKs, VC.eqKs, VC.fillL, VC.putL, VC.mixF, VC.setAll, Nat.reduceAdd, Nat.reduceSub, Nat.reduceMul, if_true, if_false, ↓reduceIte, forall_const, implies_true, reduceCtorEq, ne_eq, Nat.reduceBNe, Nat.reduceBEq, IntKind.signed, Nat.reduceEqDiff, Nat.reduceLeDiff, Nat.reduceLT, eq_self, Int.reduceEq, Int.reduceLT, Int.reduceLE, Int.reduceAdd, Int.reduceSub, VC.regC_nil, VC.regC_cons, VC.regCK_eq, VC.callQ, VC.tailQ, VC.goCall, VC.chStep]
    refine ⟨f1, by decide, ?_⟩
    clear f1 q0 bxw
    generalize stW (w3.alloc (.cells #[iV 0, iV 0] 154)) ⟨w3.heap.size, 0, none⟩ 0 [iV f, iV b] = w4 at *
    have hlq := hl (f * n + b)
    have nmq := NObs.mq hH3 ht
    have nmx := NObs.mx hH3 ht hd
    have nrq : (v'.qv (f * n + b)).ownBlock ≠ some rr := fun e => hfr rr (NObs.fq ht e) rfl
    have nrx : a.xb (f * n + b) ≠ rr := fun e => hfr _ (NObs.fx ht hd) e
    refine OPW_appQ (v := v'.qv (f * n + b)) (u := iV (-1)) rfl Fa.apI23 (by rw [eqv]; rfl) rfl rfl hQ (by rw [List.length_map]; omega) (by decide) fun v7 w7 ho7 hg7 hst7 => ?_
    obtain ⟨A7, c7, e7v⟩ := ho7.form
    have ho7' : OwnQ w7 3 v7 ((p.que (f * n + b) ++ [-1]).map iV) := by rw [List.map_append]; exact ho7
    obtain ⟨⟨g1, g2⟩, st7⟩ := NObs.grow hH3 ht hd ho7' hg7 hst7
    have hxl7 : a.xb (f * n + b) < w7.heap.size := by have := hg7.size; omega
    subst e7v
    rw [VC.Now, VC.seqK_eq]
    simp -dsimp (maxSteps := 2000000) only [Fa.F93, g1, g2, hxl7, VC.Now, VC.vc, VC.lib, VC.mapN_drewN, VC.mapB_drewN, VC.regQ, VC.loopK, VC.reg, VC.opP, VC.opS, VC.opZ, VC.nomulB, VC.pv, VC.thenF, VC.blkF, VC.retF, VC.resV, VC.oneV, VC.evo, VC.bin, VC.binI, VC.cmpI, VC.arithI, VC.ldv, VC.slv, VC.pickP, VC.holds, VC.chainOf, VC.look, VC.junk, VC.put, VC.eff, VC.callee, VC.pureB, VC.rdK, VC.rdKs, VC.okKs, VC.eqKs, VC.fillL, VC.putL, VC.stW, VC.stOK, VC.mixF, VC.setAll, Nat.reduceAdd, Nat.reduceSub, Nat.reduceMul, if_true, if_false, ↓reduceIte, forall_const, implies_true, reduceCtorEq, ne_eq, Nat.reduceBNe, Nat.reduceBEq, IntKind.signed, Nat.reduceEqDiff, Nat.reduceLeDiff, Nat.reduceLT, eq_self, Int.reduceEq, Int.reduceLT, Int.reduceLE, Int.reduceAdd, Int.reduceSub, VC.regC_nil, VC.regC_cons, VC.regCK_eq, VC.callQ, VC.tailQ, VC.goCall, VC.chStep]
    refine ⟨SAME.intro (by kernel_rfl), cnt', hlt, fun y => left y ∧ y ≠ ((f : Int), (b : Int)), { v' with qv := upd v'.qv (f * n + b) (.slice A7 ((p.que (f * n + b)).map iV ++ [iV (-1)]).length c7) }, ?_⟩
    rw [markQ_take hf hb hfb hlx, ← hmk]
    have st8 := st3'.trans st7
    rw [← hmk] at st8
    refine ⟨?_, st8, hnv, ?_, ?_⟩
    · exact (hRg4.agree (Agree.grown (X := fun g => (v'.qv (f * n + b)).ownBlock = some g) hg7 fun g hg => hg) nmq nrq).agree (Agree.setCell (X := fun g => g = a.xb (f * n + b)) _ (a := ⟨a.xb (f * n + b), 0, none⟩) _ rfl) (fun e => nmx e.symm) (fun e => nrx e.symm)
    · intro g hg e
      rcases st7.foot g (by rw [← hmk]; exact hg) with h9 | h9
      · exact hfr g h9 e
      · omega
    · rw [← hmk] at st7
      exact Nat.lt_of_lt_of_le hrl4 st7.agree.size
end
end Go.Proofs.Ytelfmhiaafkimaa
