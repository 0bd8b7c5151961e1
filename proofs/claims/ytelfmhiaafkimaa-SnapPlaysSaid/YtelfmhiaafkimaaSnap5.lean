/- A picture of what moves: all as at first. -/
import Derived.Test.YtelfmhiaafkimaaSnapRel
import Derived.Test.YtelfmhiaafkimaaTbl
namespace Go.Proofs.Ytelfmhiaafkimaa
open Go Go.RowKit Go.VC
set_option linter.unusedSimpArgs false
set_option linter.unusedVariables false
def wayT (n T : Nat) (xb : Nat → Nat) : Int × Int → Option Value := fun x => if (((0 ≤ x.1 ∧ x.1 < n) ∧ (0 ≤ x.2 ∧ x.2 < n)) ∧ x.1 ≠ x.2) ∧ x.1.toNat * n + x.2.toNat < T then some (ptrV (xb (x.1.toNat * n + x.2.toNat))) else none
theorem wayT_zero {n : Nat} {xb : Nat → Nat} : wayT n 0 xb = fun _ => none := by
  funext x; unfold wayT; rw [if_neg (fun h => Nat.not_lt_zero _ h.2)]
theorem wayT_all {n : Nat} {xb : Nat → Nat} : wayT n (n * n) xb = wayM n xb := by
  funext x
  unfold wayT wayM
  refine ifc ⟨fun h => h.1, fun h => ⟨h, idx_lt (by omega) (by omega)⟩⟩
theorem key_eq {n k j : Nat} (hk : k < n) (hj : j < n) {x : Int × Int} (hx : ((0 ≤ x.1 ∧ x.1 < n) ∧ (0 ≤ x.2 ∧ x.2 < n))) : x.1.toNat * n + x.2.toNat = k * n + j ↔ x = ((k : Int), (j : Int)) := by
  obtain ⟨x1, x2⟩ := x
  obtain ⟨⟨h1, h2⟩, h3, h4⟩ := hx
  simp only at h1 h2 h3 h4 ⊢
  constructor
  · intro h
    have h5 := (tdiv hk hj (x1.toNat * n + x2.toNat)).1 h
    rw [(idx_div (show x2.toNat < n by omega)).1, (idx_div (show x2.toNat < n by omega)).2] at h5
    exact Prod.ext (by show x1 = k; omega) (by show x2 = j; omega)
  · intro h
    have e1 : x1 = k := congrArg Prod.fst h
    have e2 : x2 = j := congrArg Prod.snd h
    rw [e1, e2]; simp
theorem wayT_next {n k j b : Nat} {xb : Nat → Nat} (hk : k < n) (hj : j < n) (h : k ≠ j) : updV (wayT n (k * n + j) xb) ((k : Int), (j : Int)) (ptrV b) = wayT n (k * n + j + 1) (upd xb (k * n + j) b) := by
  funext x
  by_cases e : x = ((k : Int), (j : Int))
  · rw [e, updV_same]
    unfold wayT
    rw [if_pos ⟨⟨⟨⟨by simp, by simpa using hk⟩, ⟨by simp, by simpa using hj⟩⟩, fun e2 => h (by simp only at e2; omega)⟩, by simp⟩]
    simp only [Int.toNat_natCast]
    rw [upd_same]
  · rw [updV_other e]
    unfold wayT
    by_cases hr : ((0 ≤ x.1 ∧ x.1 < n) ∧ (0 ≤ x.2 ∧ x.2 < n))
    · have hne : x.1.toNat * n + x.2.toNat ≠ k * n + j := fun e2 => e ((key_eq hk hj hr).1 e2)
      rw [upd_other hne]
      exact ifc ⟨fun hh => ⟨hh.1, by omega⟩, fun hh => ⟨hh.1, by omega⟩⟩
    · rw [if_neg (fun hh => hr hh.1.1), if_neg (fun hh => hr hh.1.1)]
theorem wayT_skip {n k : Nat} {xb : Nat → Nat} (hk : k < n) : wayT n (k * n + k + 1) xb = wayT n (k * n + k) xb := by
  funext x
  unfold wayT
  refine ifc ⟨fun hh => ⟨hh.1, ?_⟩, fun hh => ⟨hh.1, by omega⟩⟩
  have hne : x.1.toNat * n + x.2.toNat ≠ k * n + k := fun e2 => by
    have e := (key_eq hk hk hh.1.1).1 e2
    exact hh.1.2 (by rw [e])
  omega
def wayG (n T : Nat) (xb : Nat → Nat) (t : Nat) : Ob := if t / n = t % n ∨ T ≤ t then oNone else oBox (xb t) [nilS, nilS, .bool false]
theorem wayG_next {n T b : Nat} {xb : Nat → Nat} (hd : T / n ≠ T % n) : fam (n * n) (upd (wayG n T xb) T (oBox b [nilS, nilS, .bool false])) = fam (n * n) (wayG n (T + 1) (upd xb T b)) := by
  refine fam_turn ?_ fun i _ hi => ?_
  · unfold wayG
    rw [if_neg (fun h => h.elim hd (fun h2 => by omega)), upd_same]
  · unfold wayG
    rw [upd_other hi]
    exact ifc ⟨fun h => h.imp_right fun h2 => by omega, fun h => h.imp_right fun h2 => by omega⟩
theorem wayG_skip {n T : Nat} {xb : Nat → Nat} (hd : T / n = T % n) : fam (n * n) (wayG n (T + 1) xb) = fam (n * n) (wayG n T xb) := by
  refine fam_congr fun i _ => ?_
  unfold wayG
  refine ifc ⟨fun h => ?_, fun h => ?_⟩
  · exact h.imp_right fun h2 => by omega
  · by_cases e : i = T
    · subst e; exact Or.inl hd
    · exact h.imp_right fun h2 => by omega
abbrev procL (m : Nat → Int) (k : Nat) : List Value := (List.range k).flatMap fun i => [iV (m i), iV (-1)]
theorem procL_succ (m : Nat → Int) (k : Nat) : procL m (k + 1) = procL m k ++ [iV (m k), iV (-1)] := by unfold procL; rw [List.range_succ, List.flatMap_append]; simp
theorem procL_len (m : Nat → Int) : ∀ k, (procL m k).length = k * 2
  | 0 => rfl
  | k + 1 => by rw [procL_succ, List.length_append, procL_len m k]; simp; omega
theorem procL_at (m : Nat → Int) : ∀ {k i j : Nat}, i < k → j < 2 → (procL m k)[i * 2 + j]? = [iV (m i), iV (-1)][j]?
  | 0, i, j, h, _ => absurd h (Nat.not_lt_zero i)
  | k + 1, i, j, h, hj => by
    rw [procL_succ]
    by_cases e : i = k
    · subst e
      rw [List.getElem?_append_right (by rw [procL_len]; omega), procL_len, Nat.add_sub_cancel_left]
    · rw [List.getElem?_append_left (by rw [procL_len]; omega)]
      exact procL_at m (by omega) hj
noncomputable abbrev PObs (n wb mb k : Nat) (m : Nat → Int) (pv : Value) (T cnt : Nat) (xb : Nat → Nat) : List Ob := [oBox wb [pv, .map (some mb)], oMap EW mb cnt (wayT n T xb), oOwn 153 2 k pv (procL m k)] ++ fam (n * n) (wayG n T xb)
set_option maxRecDepth 8000 in
set_option maxHeartbeats 4000000 in
theorem open_any (A : Option Addr) (n c : Nat) (m : Nat → Int) (w : World) (hv : RdT w A n 1 (fun i => [.int .i64 (m i)])) (h1 : 1 ≤ n) (hn : n ≤ 6) :
    Calls Try.prog 56 #[.slice A n c] w fun e w' => ∃ a : NA, e = .returned (ptrV a.wb) ∧ Hp w.heap.size (NObs n a (pOf n (sn0 m)) ⟨fun _ => nilS, fun _ => nilS⟩) w' ∧ Below w.heap.size w w' := by
  have hnn36 : n * n ≤ 36 := Nat.mul_le_mul hn hn
  refine calls_vc (rs := [.tmp 2]) Fa.mix Try.func56 rfl Try.ntmps56 rfl (by kernel_rfl) (Nat.le_of_ble_eq_true rfl) ?_
  simp -dsimp (maxSteps := 2000000) only [Fa.F56, VC.Now, VC.vc, VC.lib, VC.mapN_drewN, VC.mapB_drewN, VC.regQ, VC.loopK, VC.reg, VC.opP, VC.opS, VC.opZ, VC.nomulB, VC.pv, VC.thenF, VC.blkF, VC.retF, VC.resV, VC.oneV, VC.evo, VC.bin, VC.binI, VC.cmpI, VC.arithI, VC.ldv, VC.slv, VC.pickP, VC.holds, VC.chainOf, VC.look, VC.junk, VC.put, VC.eff, VC.callee, VC.pureB, VC.rdK, VC.rdKs, VC.okKs, VC.eqKs, VC.fillL, VC.putL, VC.stW, VC.stOK, VC.mixF, VC.setAll, Nat.reduceAdd, Nat.reduceSub, Nat.reduceMul, if_true, if_false, ↓reduceIte, forall_const, implies_true, reduceCtorEq, ne_eq, Nat.reduceBNe, Nat.reduceBEq, IntKind.signed, Nat.reduceEqDiff, Nat.reduceLeDiff, Nat.reduceLT, eq_self, Int.reduceEq, Int.reduceLT, Int.reduceLE, Int.reduceAdd, Int.reduceSub, VC.regC_nil, VC.regC_cons, VC.regCK_eq, VC.callQ, VC.tailQ, VC.goCall, VC.chStep]
  refine OPW_makeMapV EW rfl fun w1 hw1 hM1 => ?_
  have hB1 : Below w.heap.size w w1 := by rw [hw1]; exact (Below.refl _ w).alloc (Nat.le_refl _) _
  have hH1 := ((Hp.nil (B := w.heap.size) (Nat.le_refl _)).st_add (o := oMap EW w.heap.size 0 (fun _ => none)) hB1 hM1 (fun g hg => by cases hg; exact Nat.le_refl _)).hp
  rw [VC.Now, VC.seqK_eq]
  simp -dsimp (maxSteps := 2000000) only [Fa.F56, VC.Now, VC.vc, VC.lib, VC.mapN_drewN, VC.mapB_drewN, VC.regQ, VC.loopK, VC.reg, VC.opP, VC.opS, VC.opZ, VC.nomulB, VC.pv, VC.thenF, VC.blkF, VC.retF, VC.resV, VC.oneV, VC.evo, VC.bin, VC.binI, VC.cmpI, VC.arithI, VC.ldv, VC.slv, VC.pickP, VC.holds, VC.chainOf, VC.look, VC.junk, VC.put, VC.eff, VC.callee, VC.pureB, VC.rdK, VC.rdKs, VC.okKs, VC.eqKs, VC.fillL, VC.putL, VC.stW, VC.stOK, VC.mixF, VC.setAll, Nat.reduceAdd, Nat.reduceSub, Nat.reduceMul, if_true, if_false, ↓reduceIte, forall_const, implies_true, reduceCtorEq, ne_eq, Nat.reduceBNe, Nat.reduceBEq, IntKind.signed, Nat.reduceEqDiff, Nat.reduceLeDiff, Nat.reduceLT, eq_self, Int.reduceEq, Int.reduceLT, Int.reduceLE, Int.reduceAdd, Int.reduceSub, VC.regC_nil, VC.regC_cons, VC.regCK_eq, VC.callQ, VC.tailQ, VC.goCall, VC.chStep]
  have bx := Box.new w1 [nilS, .map (some w.heap.size)] 151
  have hBb : Below w1.heap.size w1 (w1.alloc (.cells #[nilS, .map (some w.heap.size)] 151)) := (Below.refl _ _).alloc (Nat.le_refl _) _
  have hH2 := (hH1.st_add (o := oBox w1.heap.size [nilS, .map (some w.heap.size)]) hBb bx (fun g hg => by cases hg; exact Nat.le_refl _)).hp
  have hB2 := hB1.trans (hBb.mono hH1.base)
  change Hp _ _ (w1.alloc (.cells #[nilS, .map (some w.heap.size)] 151)) at hH2
  have hH3 : Hp w.heap.size (PObs n w1.heap.size w.heap.size 0 m nilS 0 0 (fun _ => 0)) (w1.alloc (.cells #[nilS, .map (some w.heap.size)] 151)) := by
    have h0 := hH2.free (M := oOwn 153 2 0 nilS (procL m 0) :: fam (n * n) (wayG n 0 fun _ => 0)) (fun o ho => by
      rcases List.mem_cons.1 ho with rfl | ho
      · exact ⟨OwnK.nil _ _ _ _, rfl⟩
      · obtain ⟨t, _, rfl⟩ := List.mem_map.1 ho
        unfold wayG
        rw [if_pos (Or.inr (Nat.zero_le _))]
        exact ⟨trivial, rfl⟩)
    rw [← wayT_zero (n := n) (xb := fun _ => 0)] at h0
    exact h0
  generalize w1.alloc (.cells #[nilS, .map (some w.heap.size)] 151) = w2 at hH3 hB2 ⊢
  clear bx hBb hH2 hH1 hB1
  generalize w1.heap.size = wb at hH3 ⊢
  generalize hmb : w.heap.size = mb at hH3 hB2 ⊢
  refine loop_slots Fa.mix [12] [4, 5, 6, 13, 14, 15, 16, 17, 18, 19, 20, 21, 22, 23, 24, 25, 26, 27, 28, 29, 30, 31, 32, 33, 34, 35, 36, 37, 38, 39, 40, 41, 42, 43, 44, 45, 46] (fun mm vs wx => ∃ (k cnt : Nat) (pv : Value) (xb : Nat → Nat), k + mm = n ∧ vs = [.int .i64 k] ∧ Below mb w wx ∧ Hp mb (PObs n wb mb k m pv (k * n) cnt xb) wx ∧ cnt ≤ k * n) n (by kernel_rfl) rfl
    ⟨0, 0, nilS, _, by omega, rfl, hB2, by rw [Nat.zero_mul]; exact hH3, Nat.zero_le _⟩ ?_
  clear hB2 hH3 hM1 hw1
  rintro mm vs u2 wx ⟨k, cnt, pv, xb, hkm, rfl, hBx, hH, hcn⟩
  by_cases hk : k < n
  · have e7 : ((k : Int) < n) = True := eq_true (by omega)
    obtain ⟨b, o, rfl, hb0, hc3⟩ := (hv.below (by rw [hmb]; exact hBx)) (by omega)
    have z0 := hc3 k hk 0 _ rfl
    simp only [Nat.mul_one, Nat.add_zero] at z0
    have hO : OwnK wx 0 153 2 k pv (procL m k) := hH.get 2 rfl
    obtain ⟨Av, cv, ev, _⟩ := id hO
    have bw : Box wx wb [pv, .map (some mb)] := hH.get 0 rfl
    have hkn : k * n ≤ n * n := Nat.mul_le_mul_right n (Nat.le_of_lt hk)
    have hOe := hO
    rw [ev] at bw hOe
    have m0 := bw.at (i := 0) rfl
    have hwl := bw.1
    simp -dsimp (maxSteps := 2000000) only [Fa.F56, e7, rdI_of z0, z0, hb0, rdSA_of m0, rdSN_of m0, rdSC_of m0, m0, hwl, Int.toNat_natCast, VC.Now, VC.vc, VC.lib, VC.mapN_drewN, VC.mapB_drewN, VC.regQ, VC.loopK, VC.reg, VC.opP, VC.opS, VC.opZ, VC.nomulB, VC.pv, VC.thenF, VC.blkF, VC.retF, VC.resV, VC.oneV, VC.evo, VC.bin, VC.binI, VC.cmpI, VC.arithI, VC.ldv, VC.slv, VC.pickP, VC.holds, VC.chainOf, VC.look, VC.junk, VC.put, VC.eff, VC.callee, VC.pureB, VC.rdK, VC.rdKs, VC.okKs, VC.eqKs, VC.fillL, VC.putL, VC.stW, VC.stOK, VC.mixF, VC.setAll, Nat.reduceAdd, Nat.reduceSub, Nat.reduceMul, if_true, if_false, ↓reduceIte, forall_const, implies_true, reduceCtorEq, ne_eq, Nat.reduceBNe, Nat.reduceBEq, IntKind.signed, Nat.reduceEqDiff, Nat.reduceLeDiff, Nat.reduceLT, eq_self, Int.reduceEq, Int.reduceLT, Int.reduceLE, Int.reduceAdd, Int.reduceSub, VC.regC_nil, VC.regC_cons, VC.regCK_eq, VC.callQ, VC.tailQ, VC.goCall, VC.chStep]
    refine ⟨by omega, ?_⟩
    refine OPW_appK (v := .slice Av k cv) (us := [iV (m k), iV (-1)]) rfl Fa.apI148 rfl rfl rfl (by simp [Value.oneCell']) hOe (Nat.zero_le _) (by omega) (by decide) fun v8 w8 ho8 hg8 hst8 => ?_
    rw [← procL_succ] at ho8
    rw [← ev] at hg8 hst8
    obtain ⟨⟨r1, r2⟩, st8⟩ := hH.growField 0 2 rfl rfl (by decide) ho8 hg8 hst8 0 (by show 0 < 2; omega)
    obtain ⟨A8, c8, e8, _⟩ := id ho8
    have hwl8 : wb < w8.heap.size := by have := hg8.size; omega
    subst e8
    have hH8 := st8.hp
    have hB8 := hBx.trans (st8.below hH)
    rw [VC.Now, VC.seqK_eq]
    simp -dsimp (maxSteps := 2000000) only [Fa.F56, r1, r2, hwl8, VC.Now, VC.vc, VC.lib, VC.mapN_drewN, VC.mapB_drewN, VC.regQ, VC.loopK, VC.reg, VC.opP, VC.opS, VC.opZ, VC.nomulB, VC.pv, VC.thenF, VC.blkF, VC.retF, VC.resV, VC.oneV, VC.evo, VC.bin, VC.binI, VC.cmpI, VC.arithI, VC.ldv, VC.slv, VC.pickP, VC.holds, VC.chainOf, VC.look, VC.junk, VC.put, VC.eff, VC.callee, VC.pureB, VC.rdK, VC.rdKs, VC.okKs, VC.eqKs, VC.fillL, VC.putL, VC.stW, VC.stOK, VC.mixF, VC.setAll, Nat.reduceAdd, Nat.reduceSub, Nat.reduceMul, if_true, if_false, ↓reduceIte, forall_const, implies_true, reduceCtorEq, ne_eq, Nat.reduceBNe, Nat.reduceBEq, IntKind.signed, Nat.reduceEqDiff, Nat.reduceLeDiff, Nat.reduceLT, eq_self, Int.reduceEq, Int.reduceLT, Int.reduceLE, Int.reduceAdd, Int.reduceSub, VC.regC_nil, VC.regC_cons, VC.regCK_eq, VC.callQ, VC.tailQ, VC.goCall, VC.chStep]
    clear hO hOe bw m0 hwl ho8 hg8 hst8 r1 r2 hwl8 st8 hH hBx
    change Hp mb (PObs n wb mb (k + 1) m (.slice A8 (k + 1) c8) (k * n) cnt xb) _ at hH8
    generalize w8.setCell ⟨wb, 0, none⟩ (.slice A8 (k + 1) c8) = w9 at hH8 hB8 ⊢
    obtain ⟨pv9, hpv9⟩ : ∃ pv9, pv9 = Value.slice A8 (k + 1) c8 := ⟨_, rfl⟩
    rw [← hpv9] at hH8
    refine loop_slots Fa.mix [30] [6, 31, 32, 33, 34, 35, 36, 37, 38, 39, 40, 41, 42, 43, 44, 45] (fun mm vs wx => ∃ (j cnt : Nat) (xb : Nat → Nat), j + mm = n ∧ vs = [.int .i64 j] ∧ Below mb w wx ∧ Hp mb (PObs n wb mb (k + 1) m pv9 (k * n + j) cnt xb) wx ∧ cnt ≤ k * n + j) n (by kernel_rfl) rfl
      ⟨0, cnt, xb, by omega, rfl, hB8, hH8, by omega⟩ ?_
    clear hH8 hB8 hcn
    rintro m3 vs u3 wx ⟨j, cnt, xb, hjm, rfl, hBx, hH, hcn⟩
    by_cases hj : j < n
    · have e8 : ((j : Int) < n) = True := eq_true (by omega)
      have hkj := idx_lt hk hj
      by_cases hkj2 : k = j
      · have e9 : ((k : Int) = j) = True := eq_true (by omega)
        simp -dsimp (maxSteps := 2000000) only [Fa.F56, e8, e9, VC.Now, VC.vc, VC.lib, VC.mapN_drewN, VC.mapB_drewN, VC.regQ, VC.loopK, VC.reg, VC.opP, VC.opS, VC.opZ, VC.nomulB, VC.pv, VC.thenF, VC.blkF, VC.retF, VC.resV, VC.oneV, VC.evo, VC.bin, VC.binI, VC.cmpI, VC.arithI, VC.ldv, VC.slv, VC.pickP, VC.holds, VC.chainOf, VC.look, VC.junk, VC.put, VC.eff, VC.callee, VC.pureB, VC.rdK, VC.rdKs, VC.okKs, VC.eqKs, VC.fillL, VC.putL, VC.stW, VC.stOK, VC.mixF, VC.setAll, Nat.reduceAdd, Nat.reduceSub, Nat.reduceMul, if_true, if_false, ↓reduceIte, forall_const, implies_true, reduceCtorEq, ne_eq, Nat.reduceBNe, Nat.reduceBEq, IntKind.signed, Nat.reduceEqDiff, Nat.reduceLeDiff, Nat.reduceLT, eq_self, Int.reduceEq, Int.reduceLT, Int.reduceLE, Int.reduceAdd, Int.reduceSub, VC.regC_nil, VC.regC_cons, VC.regCK_eq, VC.callQ, VC.tailQ, VC.goCall, VC.chStep]
        refine ⟨fits_i64_nat (by omega), SAME.intro (by kernel_rfl), m3 - 1, by omega, j + 1, cnt, xb, by omega, rfl, hBx, ?_, by omega⟩
        subst hkj2
        have hdk : (k * n + k) / n = (k * n + k) % n := by rw [(idx_div hk).1, (idx_div hk).2]
        have e3 : PObs n wb mb (k + 1) m pv9 (k * n + (k + 1)) cnt xb = PObs n wb mb (k + 1) m pv9 (k * n + k) cnt xb := by
          unfold PObs
          rw [← Nat.add_assoc, wayT_skip hk, wayG_skip hdk]
        have hH5 : Hp mb (PObs n wb mb (k + 1) m pv9 (k * n + (k + 1)) cnt xb) wx := by rw [e3]; exact hH
        exact hH5
      have e9 : ((k : Int) = j) = False := eq_false (by omega)
      have bw : Box wx wb [pv9, .map (some mb)] := hH.get 0 rfl
      have m1 := bw.at (i := 1) rfl
      have hwl := bw.1
      have hkey := EW_ok (i := k) (j := j) (by omega) (by omega)
      have hnone : (wayT n (k * n + j) xb ((k : Int), (j : Int))).isSome = false := by
        unfold wayT
        rw [if_neg (fun hh => by have := hh.2; simp only [Int.toNat_natCast] at this; omega)]; rfl
      have by1 := Box.new wx [nilS, nilS, .bool false] 157
      have hBy : Below wx.heap.size wx (wx.alloc (.cells #[nilS, nilS, .bool false] 157)) := (Below.refl _ _).alloc (Nat.le_refl _) _
      have hd : (k * n + j) / n ≠ (k * n + j) % n := by rw [(idx_div hj).1, (idx_div hj).2]; exact hkj2
      simp -dsimp (maxSteps := 2000000) only [Fa.F56, e8, e9, rdM_of m1, m1, hwl, VC.Now, VC.vc, VC.lib, VC.mapN_drewN, VC.mapB_drewN, VC.regQ, VC.loopK, VC.reg, VC.opP, VC.opS, VC.opZ, VC.nomulB, VC.pv, VC.thenF, VC.blkF, VC.retF, VC.resV, VC.oneV, VC.evo, VC.bin, VC.binI, VC.cmpI, VC.arithI, VC.ldv, VC.slv, VC.pickP, VC.holds, VC.chainOf, VC.look, VC.junk, VC.put, VC.eff, VC.callee, VC.pureB, VC.rdK, VC.rdKs, VC.okKs, VC.eqKs, VC.fillL, VC.putL, VC.stW, VC.stOK, VC.mixF, VC.setAll, Nat.reduceAdd, Nat.reduceSub, Nat.reduceMul, if_true, if_false, ↓reduceIte, forall_const, implies_true, reduceCtorEq, ne_eq, Nat.reduceBNe, Nat.reduceBEq, IntKind.signed, Nat.reduceEqDiff, Nat.reduceLeDiff, Nat.reduceLT, eq_self, Int.reduceEq, Int.reduceLT, Int.reduceLE, Int.reduceAdd, Int.reduceSub, VC.regC_nil, VC.regC_cons, VC.regCK_eq, VC.callQ, VC.tailQ, VC.goCall, VC.chStep]
      have hw0 : (wayG n (k * n + j) xb (k * n + j)) = oNone := by unfold wayG; rw [if_pos (Or.inr (Nat.le_refl _))]
      have hHf : Hp mb ([oBox wb [pv9, .map (some mb)], oMap EW mb cnt (wayT n (k * n + j) xb), oOwn 153 2 (k + 1) pv9 (procL m (k + 1))] ++ (fam (n * n) (wayG n (k * n + j) xb) ++ [])) wx := by rw [List.append_nil]; exact hH
      have st1 := hHf.fst (t := k * n + j) hkj (o' := oBox wx.heap.size [nilS, nilS, .bool false]) by1 ((Agree.of_below hBy : Agree (fun _ => False) _ _).mono fun _ _ hh => hh.elim) (Or.inr fun g hg => by cases hg; exact Nat.le_refl _)
      rw [wayG_next hd, List.append_nil] at st1
      have hB1 := hBx.trans (hBy.mono hH.base)
      have hH1 := st1.hp
      change Hp _ _ (wx.alloc (.cells #[nilS, nilS, .bool false] 157)) at hH1
      generalize wx.alloc (.cells #[nilS, nilS, .bool false] 157) = wy at hH1 hB1 ⊢
      clear by1 hBy st1 bw m1 hwl
      generalize wx.heap.size = nb at hH1 ⊢
      refine OPW_updV (x := ((k : Int), (j : Int))) (c := ptrV nb) (hH1.get 1 rfl : MapV Try.prog EW wy mb cnt (wayT n (k * n + j) xb)) rfl (by kernel_rfl) rfl rfl rfl hkey (by unfold maxLen; omega) fun w6 hM6 ht6 => ?_
      rw [hnone, wayT_next hk hj hkj2] at hM6
      have hM6 : MapV Try.prog EW w6 mb (cnt + 1) (wayT n (k * n + j + 1) (upd xb (k * n + j) nb)) := hM6
      have st6 := hH1.turned 1 rfl hM6 ht6
      have hH6 : Hp mb (PObs n wb mb (k + 1) m pv9 (k * n + j + 1) (cnt + 1) (upd xb (k * n + j) nb)) w6 := by
        have := st6.hp
        rw [List.append_nil] at this
        exact this
      rw [VC.Now, VC.seqK_eq]
      simp -dsimp (maxSteps := 2000000) only [Fa.F56, VC.Now, VC.vc, VC.lib, VC.mapN_drewN, VC.mapB_drewN, VC.regQ, VC.loopK, VC.reg, VC.opP, VC.opS, VC.opZ, VC.nomulB, VC.pv, VC.thenF, VC.blkF, VC.retF, VC.resV, VC.oneV, VC.evo, VC.bin, VC.binI, VC.cmpI, VC.arithI, VC.ldv, VC.slv, VC.pickP, VC.holds, VC.chainOf, VC.look, VC.junk, VC.put, VC.eff, VC.callee, VC.pureB, VC.rdK, VC.rdKs, VC.okKs, VC.eqKs, VC.fillL, VC.putL, VC.stW, VC.stOK, VC.mixF, VC.setAll, Nat.reduceAdd, Nat.reduceSub, Nat.reduceMul, if_true, if_false, ↓reduceIte, forall_const, implies_true, reduceCtorEq, ne_eq, Nat.reduceBNe, Nat.reduceBEq, IntKind.signed, Nat.reduceEqDiff, Nat.reduceLeDiff, Nat.reduceLT, eq_self, Int.reduceEq, Int.reduceLT, Int.reduceLE, Int.reduceAdd, Int.reduceSub, VC.regC_nil, VC.regC_cons, VC.regCK_eq, VC.callQ, VC.tailQ, VC.goCall, VC.chStep]
      refine ⟨fits_i64_nat (by omega), SAME.intro (by kernel_rfl), m3 - 1, by omega, j + 1, cnt + 1, _, by omega, rfl, hB1.trans (st6.below hH1), hH6, by omega⟩
    · obtain rfl : j = n := by omega
      have e8 : ((j : Int) < j) = False := eq_false (by omega)
      have ekn : k * j + j = (k + 1) * j := by rw [Nat.succ_mul]
      rw [ekn] at hH hcn
      simp -dsimp (maxSteps := 2000000) only [Fa.F56, e8, VC.Now, VC.vc, VC.lib, VC.mapN_drewN, VC.mapB_drewN, VC.regQ, VC.loopK, VC.reg, VC.opP, VC.opS, VC.opZ, VC.nomulB, VC.pv, VC.thenF, VC.blkF, VC.retF, VC.resV, VC.oneV, VC.evo, VC.bin, VC.binI, VC.cmpI, VC.arithI, VC.ldv, VC.slv, VC.pickP, VC.holds, VC.chainOf, VC.look, VC.junk, VC.put, VC.eff, VC.callee, VC.pureB, VC.rdK, VC.rdKs, VC.okKs, VC.eqKs, VC.fillL, VC.putL, VC.stW, VC.stOK, VC.mixF, VC.setAll, Nat.reduceAdd, Nat.reduceSub, Nat.reduceMul, if_true, if_false, ↓reduceIte, forall_const, implies_true, reduceCtorEq, ne_eq, Nat.reduceBNe, Nat.reduceBEq, IntKind.signed, Nat.reduceEqDiff, Nat.reduceLeDiff, Nat.reduceLT, eq_self, Int.reduceEq, Int.reduceLT, Int.reduceLE, Int.reduceAdd, Int.reduceSub, VC.regC_nil, VC.regC_cons, VC.regCK_eq, VC.callQ, VC.tailQ, VC.goCall, VC.chStep]
      exact ⟨fits_i64_nat (by omega), SAME.intro (by kernel_rfl), mm - 1, by omega, k + 1, cnt, pv9, xb, by omega, rfl, hBx, hH, hcn⟩
  · obtain rfl : k = n := by omega
    have e7 : ((k : Int) < k) = False := eq_false (by omega)
    have hO : OwnK wx 0 153 2 k pv (procL m k) := hH.get 2 rfl
    obtain ⟨gp, gc, ev, _, hgl⟩ := hO.form (by omega)
    have hOe := hO
    rw [ev] at hOe
    have hRec : Recs wx gp k 2 (fun i => prL (pOf k (sn0 m)) i) := ⟨hgl, fun i hi j hj => by
      obtain ⟨q1, q2⟩ := hOe.at (j := i * 2 + j) (by omega)
      rw [procL_at m hi hj] at q1
      exact ⟨q1, q2⟩⟩
    unfold PObs at hH
    rw [wayT_all] at hH
    have h9 := hH.reword 2 rfl (o' := oRecs gp k 2 (fun i => prL (pOf k (sn0 m)) i)) hRec (by rw [ev]; rfl)
    have h10 := h9.free (M := fam (k * k) (queF (pOf k (sn0 m)) ⟨fun _ => nilS, fun _ => nilS⟩) ++ fam (k * k) (notF (pOf k (sn0 m)) ⟨fun _ => nilS, fun _ => nilS⟩)) (fun o ho => by
      rcases List.mem_append.1 ho with ho | ho
      · obtain ⟨t, _, rfl⟩ := List.mem_map.1 ho
        exact ⟨Or.inl ⟨rfl, rfl⟩, rfl⟩
      · obtain ⟨t, _, rfl⟩ := List.mem_map.1 ho
        exact ⟨OwnK.nil _ _ _ _, rfl⟩)
    have ewg : fam (k * k) (wayG k (k * k) xb) = fam (k * k) (wayF k ⟨wb, gp, gc, mb, cnt, xb⟩ (pOf k (sn0 m)) ⟨fun _ => nilS, fun _ => nilS⟩) := fam_congr fun t ht => by
      unfold wayG wayF
      exact ifc ⟨fun h => h.resolve_right (by omega), Or.inl⟩
    simp -dsimp (maxSteps := 2000000) only [Fa.F56, e7, VC.Now, VC.vc, VC.lib, VC.mapN_drewN, VC.mapB_drewN, VC.regQ, VC.loopK, VC.reg, VC.opP, VC.opS, VC.opZ, VC.nomulB, VC.pv, VC.thenF, VC.blkF, VC.retF, VC.resV, VC.oneV, VC.evo, VC.bin, VC.binI, VC.cmpI, VC.arithI, VC.ldv, VC.slv, VC.pickP, VC.holds, VC.chainOf, VC.look, VC.junk, VC.put, VC.eff, VC.callee, VC.pureB, VC.rdK, VC.rdKs, VC.okKs, VC.eqKs, VC.fillL, VC.putL, VC.stW, VC.stOK, VC.mixF, VC.setAll, Nat.reduceAdd, Nat.reduceSub, Nat.reduceMul, if_true, if_false, ↓reduceIte, forall_const, implies_true, reduceCtorEq, ne_eq, Nat.reduceBNe, Nat.reduceBEq, IntKind.signed, Nat.reduceEqDiff, Nat.reduceLeDiff, Nat.reduceLT, eq_self, Int.reduceEq, Int.reduceLT, Int.reduceLE, Int.reduceAdd, Int.reduceSub, VC.regC_nil, VC.regC_cons, VC.regCK_eq, VC.callQ, VC.tailQ, VC.goCall, VC.chStep]
    refine ⟨⟨wb, gp, gc, mb, cnt, xb⟩, rfl, ?_, hBx⟩
    refine h10.perm ?_
    rw [ev, ewg]
    show List.Perm ([_, _, _] ++ _ ++ _) ([_, _, _] ++ _)
    rw [List.append_assoc]
    exact List.Perm.cons _ (List.Perm.swap _ _ _)
end Go.Proofs.Ytelfmhiaafkimaa
