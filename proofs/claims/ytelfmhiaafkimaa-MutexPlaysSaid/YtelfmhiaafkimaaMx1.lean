/- One in at a time: what lies in memory; a letter is sent. -/
import Derived.Test.YtelfmhiaafkimaaFa
import Derived.Test.YtelfmhiaafkimaaFamHp
import Derived.Test.YtelfmhiaafkimaaMutexPlain
namespace Go.Proofs.Ytelfmhiaafkimaa
open Go Go.RowKit Go.VC
set_option linter.unusedSimpArgs false
set_option linter.unusedVariables false
theorem laidOut : laidOutB Try.prog = true := by kernel_rfl
noncomputable abbrev EW : KE Try.prog 154 (Int × Int) := KE.two laidOut (by kernel_rfl)
abbrev nilS : Value := .slice none 0 0
abbrev ptrV (b : Nat) : Value := .pointer (some ⟨b, 0, none⟩)
abbrev iV (x : Int) : Value := .int .i64 x
structure XA where
  wb : Nat
  gp : Nat
  gc : Nat
  mb : Nat
  pb : Nat → Nat
structure XV where
  cnt : Nat
  M : Int × Int → Option Value
  inV : Value
  wv : Nat → Value
  qv : Nat → Value
abbrev mpL (p : MP) (wv : Value) : List Value := [iV p.n, iV p.how, iV p.key, wv, iV p.yes]
abbrev natL (l : List Nat) : List Value := l.map fun (j : Nat) => iV j
noncomputable abbrev headO (n : Nat) (a : XA) (s : MxS) (v : XV) : List Ob := [oBox a.wb [.slice (some ⟨a.gp, 0, none⟩) n a.gc, .map (some a.mb), v.inV], oBox a.gp ((List.range n).map fun i => ptrV (a.pb i)), oMap EW a.mb v.cnt v.M, oOwn 3 1 s.inn.length v.inV (natL s.inn)]
noncomputable abbrev procO (n : Nat) (a : XA) (s : MxS) (v : XV) : List Ob := fam n fun i => oBox (a.pb i) (mpL (s.pr i) (v.wv i))
noncomputable abbrev waitO (n : Nat) (s : MxS) (v : XV) : List Ob := fam n fun i => oOwn 3 1 (s.pr i).waits.length (v.wv i) (natL (s.pr i).waits)
noncomputable abbrev wayO (n : Nat) (s : MxS) (v : XV) : List Ob := fam (n * n) fun t => oQ 3 (v.qv t) ((s.way (t / n) (t % n)).map iV)
noncomputable abbrev XObs (n : Nat) (a : XA) (s : MxS) (v : XV) : List Ob := headO n a s v ++ (procO n a s v ++ (waitO n s v ++ wayO n s v))
theorem XObs_way (n : Nat) (a : XA) (s : MxS) (v : XV) : XObs n a s v = (headO n a s v ++ procO n a s v ++ waitO n s v) ++ (wayO n s v ++ []) := by simp [XObs]
/-- The map tells each way's queue. -/
structure XM (n : Nat) (v : XV) : Prop where
  key : ∀ x, (v.M x).isSome = true → ∃ i j : Nat, i < n ∧ j < n ∧ x = ((i : Int), (j : Int))
  val : ∀ i j : Nat, i < n → j < n → (v.M ((i : Int), (j : Int))).getD nilS = v.qv (i * n + j)
theorem EW_ok {i j : Nat} (hi : i ≤ 1000) (hj : j ≤ 1000) : EW.ok ((i : Int), (j : Int)) := fun x hx => by
  simp only [List.mem_cons, List.not_mem_nil, or_false] at hx
  rcases hx with rfl | rfl
  · exact fits_i64 (by omega) (by omega)
  · exact fits_i64 (by omega) (by omega)
theorem idx_lt {n a b : Nat} (ha : a < n) (hb : b < n) : a * n + b < n * n := by
  have : (a + 1) * n ≤ n * n := Nat.mul_le_mul_right n ha
  rw [Nat.succ_mul] at this; omega
theorem idx_div {n a b : Nat} (hb : b < n) : (a * n + b) / n = a ∧ (a * n + b) % n = b := by
  have hn : 0 < n := by omega
  refine ⟨?_, ?_⟩
  · rw [Nat.mul_comm, Nat.mul_add_div hn, Nat.div_eq_of_lt hb, Nat.add_zero]
  · rw [Nat.mul_comm, Nat.mul_add_mod, Nat.mod_eq_of_lt hb]
theorem XM.upd {n i j : Nat} {v : XV} {u : Value} {c : Nat} (h : XM n v) (hi : i < n) (hj : j < n) : XM n { v with cnt := c, M := updV v.M ((i : Int), (j : Int)) u, qv := VC.upd v.qv (i * n + j) u } := by
  refine ⟨fun x hx => ?_, fun a b ha hb => ?_⟩
  · by_cases e : x = ((i : Int), (j : Int))
    · exact ⟨i, j, hi, hj, e⟩
    · rw [show ({ v with cnt := c, M := updV v.M ((i : Int), (j : Int)) u, qv := VC.upd v.qv (i * n + j) u } : XV).M x = updV v.M ((i : Int), (j : Int)) u x from rfl, updV_other e] at hx
      exact h.key x hx
  · show (updV v.M ((i : Int), (j : Int)) u ((a : Int), (b : Int))).getD nilS = VC.upd v.qv (i * n + j) u (a * n + b)
    by_cases e : ((a : Int), (b : Int)) = ((i : Int), (j : Int))
    · have e1 : a = i := by have := congrArg Prod.fst e; simp at this; omega
      have e2 : b = j := by have := congrArg Prod.snd e; simp at this; omega
      subst e1; subst e2
      rw [updV_same, VC.upd_same]; rfl
    · rw [updV_other e, VC.upd_other, h.val a b ha hb]
      intro e2
      have h1 := idx_div (n := n) (a := a) hb
      have h2 := idx_div (n := n) (a := i) hj
      rw [e2, h2.1, h2.2] at h1
      exact e (by rw [h1.1, h1.2])
section
variable {B n : Nat} {a : XA} {s : MxS} {v : XV} {w : World}
/-- The ways' queues, when one has another value and other letters. -/
theorem wayO_upd {i j : Nat} (hi : i < n) (hj : j < n) (q : List Int) (u : Value) (s' : MxS) (hs : ∀ a b, s'.way a b = if a = i ∧ b = j then q else s.way a b) :
    fam (n * n) (fun t => oQ 3 (upd v.qv (i * n + j) u t) (upd (fun t => (s.way (t / n) (t % n)).map iV) (i * n + j) (q.map iV) t)) = fam (n * n) fun t => oQ 3 (upd v.qv (i * n + j) u t) ((s'.way (t / n) (t % n)).map iV) := by
  refine List.map_congr_left fun t ht => ?_
  have ht : t < n * n := by simpa using ht
  congr 1
  rw [hs]
  by_cases e : t = i * n + j
  · subst e
    rw [upd_same, (idx_div hj).1, (idx_div hj).2, if_pos ⟨rfl, rfl⟩]
  · rw [upd_other e, if_neg]
    rintro ⟨e1, e2⟩
    exact e (by rw [← e1, ← e2, Nat.mul_comm]; exact (Nat.div_add_mod t n).symm)

set_option maxRecDepth 8000 in
set_option maxHeartbeats 4000000 in
theorem send_any (h : Hp B (XObs n a s v) w) (hv : XM n v) {i j : Nat} (hi : i < n) (hj : j < n) (hn : n ≤ 6) (x : Int) (hl : (s.way i j).length ≤ 50000) (hc : v.cnt ≤ 50000) :
    Calls Try.prog 120 #[ptrV a.wb, iV i, iV j, iV x] w fun e w' => e = .returned (.tuple #[]) ∧ ∃ v', St B (XObs n a s v) w (XObs n a (msend i j x s) v') w' ∧ XM n v' ∧ v'.inV = v.inV ∧ v'.wv = v.wv ∧ v'.cnt ≤ v.cnt + 1 := by
  refine calls_vc (rs := []) Fa.mix Try.func120 rfl Try.ntmps120 rfl (by kernel_rfl) (Nat.le_of_ble_eq_true rfl) ?_
  (repeat rw [vc_seq]); refine vc_plain _ fun Q hQ => ?_; simp -dsimp (maxSteps := 2000000) only [Fa.F120, VC.Now, VC.vc_skip, VC.vc_ret, VC.vc_exit, VC.vc_block, VC.vc_cond, VC.vc_region, VC.lib, VC.mapN_drewN, VC.mapB_drewN, VC.regQ, VC.loopK, VC.reg, VC.opP, VC.opS, VC.opZ, VC.nomulB, VC.pv, VC.thenF, VC.blkF, VC.retF, VC.resV, VC.oneV, VC.evo, VC.bin, VC.binI, VC.cmpI, VC.arithI, VC.ldv, VC.slv, VC.pickP, VC.holds, VC.chainOf, VC.look, VC.junk, VC.put, VC.eff, VC.callee, VC.pureB, VC.rdK, VC.rdKs, VC.okKs, VC.eqKs, VC.fillL, VC.putL, VC.mixF, VC.setAll, Nat.reduceAdd, Nat.reduceSub, Nat.reduceMul, if_true, if_false, ↓reduceIte, forall_const, implies_true, reduceCtorEq, ne_eq, Nat.reduceBNe, Nat.reduceBEq, IntKind.signed, Nat.reduceEqDiff, Nat.reduceLeDiff, Nat.reduceLT, eq_self, Int.reduceEq, Int.reduceLT, Int.reduceLE, Int.reduceAdd, Int.reduceSub, VC.regC_nil, VC.regC_cons, VC.regCK_eq, VC.callQ, VC.tailQ, VC.goCall, VC.chStep]
  obtain ⟨f1, f2, f3⟩ := boxMade w [iV 0, iV 0] [iV i, iV j] 154 rfl (by intro v hv; simp at hv; rcases hv with rfl | rfl <;> rfl)
  refine ⟨f1, ?_⟩
  clear f1
  have h1 := h.below f3
  have sb := h.below_st f3
  have nkb : ∀ o ∈ XObs n a s v, o.blk ≠ some w.heap.size := fun o ho e => by have := (h.foot_lt ⟨o, ho, e⟩).2; omega
  generalize stW (w.alloc (.cells #[iV 0, iV 0] 154)) ⟨w.heap.size, 0, none⟩ 0 [iV i, iV j] = w1 at f2 sb h1 ⊢
  clear f3
  generalize hkb : w.heap.size = kb at f2 nkb ⊢
  have bw : Box w1 a.wb [.slice (some ⟨a.gp, 0, none⟩) n a.gc, .map (some a.mb), v.inV] := h1.get 0 rfl
  have m1 := bw.at (i := 1) rfl
  have hwl := bw.1
  have k0 := f2.at (i := 0) rfl
  have k1 := f2.at (i := 1) rfl
  have hkl := f2.1
  have hij := idx_lt hi hj
  have hkey := EW_ok (i := i) (j := j) (by omega) (by omega)
  have hkm : v.cnt < maxLen := by unfold maxLen; omega
  have hval := hv.val i j hi hj
  have h1w := h1
  rw [XObs_way] at h1w
  have hQ1 : OwnQ w1 3 (v.qv (i * n + j)) ((s.way i j).map iV) := by
    have := h1w.fget hij
    rw [(idx_div hj).1, (idx_div hj).2] at this
    exact this
  have qb : ∀ g, (v.qv (i * n + j)).ownBlock = some g → g < w1.heap.size := fun g hg => (h1w.flt hij hg).2
  have nwm : a.wb ≠ a.mb := fun e => h1.ne 0 2 (by decide) rfl rfl a.wb rfl (by rw [e]; rfl)
  have nqw : (v.qv (i * n + j)).ownBlock ≠ some a.wb := fun e => h1w.ne 0 ((headO n a s v ++ procO n a s v ++ waitO n s v).length + (i * n + j)) (by simp; omega) rfl (fam_at hij) a.wb rfl e
  have nqm : (v.qv (i * n + j)).ownBlock ≠ some a.mb := fun e => h1w.ne 2 ((headO n a s v ++ procO n a s v ++ waitO n s v).length + (i * n + j)) (by simp; omega) rfl (fam_at hij) a.mb rfl e
  have nkm : kb ≠ a.mb := fun e => nkb (oMap EW a.mb v.cnt v.M) (by simp) (by rw [e]; rfl)
  have nkq : (v.qv (i * n + j)).ownBlock ≠ some kb := fun e => by have := (h.perm (L' := (headO n a s v ++ procO n a s v ++ waitO n s v) ++ (wayO n s v ++ [])) (by rw [XObs_way])).flt hij e; omega
  subst hQ
  simp -dsimp (maxSteps := 2000000) only [Fa.F120, VC.Now, VC.vc, VC.lib, VC.mapN_drewN, VC.mapB_drewN, VC.regQ, VC.loopK, VC.reg, VC.opP, VC.opS, VC.opZ, VC.nomulB, VC.pv, VC.thenF, VC.blkF, VC.retF, VC.resV, VC.oneV, VC.evo, VC.bin, VC.binI, VC.cmpI, VC.arithI, VC.ldv, VC.slv, VC.pickP, VC.holds, VC.chainOf, VC.look, VC.junk, VC.put, VC.eff, VC.callee, VC.pureB, VC.rdK, VC.rdKs, VC.okKs, VC.eqKs, VC.fillL, VC.putL, VC.stW, VC.stOK, VC.mixF, VC.setAll, Nat.reduceAdd, Nat.reduceSub, Nat.reduceMul, if_true, if_false, ↓reduceIte, forall_const, implies_true, reduceCtorEq, ne_eq, Nat.reduceBNe, Nat.reduceBEq, IntKind.signed, Nat.reduceEqDiff, Nat.reduceLeDiff, Nat.reduceLT, eq_self, Int.reduceEq, Int.reduceLT, Int.reduceLE, Int.reduceAdd, Int.reduceSub, VC.regC_nil, VC.regC_cons, VC.regCK_eq, VC.callQ, VC.tailQ, VC.goCall, VC.chStep]
  refine WP_held 11 (fun l => l = a.mb ∨ (v.qv (i * n + j)).ownBlock = some l) (.take 0 (.take 1 (.take 2 (.take 3 (.take 4 (.take 5 (.one 6 (.one 7 (.take 8 (.take 10 (.one 9 (.one 11 .done)))))))))))) Fa.mix (by kernel_rfl) rfl ?_
  simp -dsimp (maxSteps := 2000000) only [VC.heldF_done, VC.heldF_last, VC.planF_done, VC.planF_take, VC.planF_one, VC.planF_two, VC.planK_eq, VC.heldF_take, VC.heldF_one, VC.heldF_two, VC.heldF_twoL, VC.heldK_eq, VC.okRd, Fa.F120, rdM_of m1, m1, rdI_of k0, k0, rdI_of k1, k1, hwl, hkl, VC.Now, VC.vc, VC.lib, VC.mapN_drewN, VC.mapB_drewN, VC.regQ, VC.loopK, VC.reg, VC.opP, VC.opS, VC.opZ, VC.nomulB, VC.pv, VC.thenF, VC.blkF, VC.retF, VC.resV, VC.oneV, VC.evo, VC.bin, VC.binI, VC.cmpI, VC.arithI, VC.ldv, VC.slv, VC.pickP, VC.holds, VC.chainOf, VC.look, VC.junk, VC.put, VC.eff, VC.callee, VC.pureB, VC.rdK, VC.rdKs, VC.okKs, VC.eqKs, VC.fillL, VC.putL, VC.stW, VC.stOK, VC.mixF, VC.setAll, Nat.reduceAdd, Nat.reduceSub, Nat.reduceMul, if_true, if_false, ↓reduceIte, forall_const, implies_true, reduceCtorEq, ne_eq, Nat.reduceBNe, Nat.reduceBEq, IntKind.signed, Nat.reduceEqDiff, Nat.reduceLeDiff, Nat.reduceLT, eq_self, Int.reduceEq, Int.reduceLT, Int.reduceLE, Int.reduceAdd, Int.reduceSub, VC.regC_nil, VC.regC_cons, VC.regCK_eq, VC.callQ, VC.tailQ, VC.goCall, VC.chStep]
  have ag0 : Agree (fun l => l = a.mb ∨ (v.qv (i * n + j)).ownBlock = some l) w1 ((w1.drewN 1).alloc (.cells #[.int .i64 x] 3)) := Agree.of_below ((below_drewN (Below.refl _ w1) 1).alloc (Nat.le_refl _) _)
  refine ⟨fun hh => hh.elim nwm nqw, fun hh => hh.elim nkm nkq, ag0, ?_⟩
  have hB2 : Below w1.heap.size w1 ((w1.drewN 1).alloc (.cells #[.int .i64 x] 3)) := (below_drewN (Below.refl _ w1) 1).alloc (Nat.le_refl _) _
  have hcell : ((w1.drewN 1).alloc (.cells #[.int .i64 x] 3)).cell? ⟨w1.heap.size, 0, none⟩ = some (.int .i64 x) := by
    rw [show w1.heap.size = (w1.drewN 1).heap.size from rfl, World.cell?_alloc_new]; rfl
  have hlt2 : w1.heap.size < ((w1.drewN 1).alloc (.cells #[.int .i64 x] 3)).heap.size := by
    rw [show ((w1.drewN 1).alloc (.cells #[.int .i64 x] 3)).heap.size = (w1.drewN 1).heap.size + 1 from by simp]; exact Nat.lt_succ_self _
  have s2 := sb.trans (h1.below_st hB2)
  have h2 := s2.hp
  have hQ2 := hQ1.keep (w' := (w1.drewN 1).alloc (.cells #[.int .i64 x] 3)) fun g hg => hB2.block g (qb g hg)
  generalize (w1.drewN 1).alloc (.cells #[.int .i64 x] 3) = w2 at ag0 hB2 hcell hlt2 s2 h2 hQ2 ⊢
  have hM2 : MapV Try.prog EW w2 a.mb v.cnt v.M := h2.get 2 rfl
  refine OPW_entV (x := ((i : Int), (j : Int))) (z := nilS) hM2 rfl (by kernel_rfl) rfl rfl hkey hkm hval fun w6 sp hM6 hS6 ht6 => ?_
  have ag6 := ag0.trans (mapTurned_agree (X := fun l => l = a.mb ∨ (v.qv (i * n + j)).ownBlock = some l) ht6 (Or.inl rfl))
  have agm := mapTurned_agree (X := fun l => l = a.mb) ht6 rfl
  have hcell6 : w6.cell? ⟨w1.heap.size, 0, none⟩ = some (.int .i64 x) := (agm.cell hlt2 (fun e => by have := (h1.lt 2 rfl rfl : B ≤ a.mb ∧ a.mb < w1.heap.size).2; have e : w1.heap.size = a.mb := e; omega)).trans hcell
  have hQ6 := hQ2.keep (w' := w6) fun g hg => agm.block g (hQ2.lt hg) fun e => nqm (by rw [← e]; exact hg)
  have st6 := s2.trans (h2.turned 2 rfl hM6 ht6)
  have st6 : St B (XObs n a s v) w (XObs n a s { v with cnt := if (v.M ((i : Int), (j : Int))).isSome = true then v.cnt else v.cnt + 1, M := updV v.M ((i : Int), (j : Int)) (v.qv (i * n + j)) }) w6 := st6
  simp -dsimp (maxSteps := 2000000) only [VC.heldF_done, VC.heldF_last, VC.planF_done, VC.planF_take, VC.planF_one, VC.planF_two, VC.planK_eq, VC.heldF_take, VC.heldF_one, VC.heldF_two, VC.heldF_twoL, VC.heldK_eq, VC.okRd, Fa.F120, rdM_of m1, m1, rdI_of k0, k0, rdI_of k1, k1, hwl, hkl, VC.Now, VC.vc, VC.lib, VC.mapN_drewN, VC.mapB_drewN, VC.regQ, VC.loopK, VC.reg, VC.opP, VC.opS, VC.opZ, VC.nomulB, VC.pv, VC.thenF, VC.blkF, VC.retF, VC.resV, VC.oneV, VC.evo, VC.bin, VC.binI, VC.cmpI, VC.arithI, VC.ldv, VC.slv, VC.pickP, VC.holds, VC.chainOf, VC.look, VC.junk, VC.put, VC.eff, VC.callee, VC.pureB, VC.rdK, VC.rdKs, VC.okKs, VC.eqKs, VC.fillL, VC.putL, VC.stW, VC.stOK, VC.mixF, VC.setAll, Nat.reduceAdd, Nat.reduceSub, Nat.reduceMul, if_true, if_false, ↓reduceIte, forall_const, implies_true, reduceCtorEq, ne_eq, Nat.reduceBNe, Nat.reduceBEq, IntKind.signed, Nat.reduceEqDiff, Nat.reduceLeDiff, Nat.reduceLT, eq_self, Int.reduceEq, Int.reduceLT, Int.reduceLE, Int.reduceAdd, Int.reduceSub, VC.regC_nil, VC.regC_cons, VC.regCK_eq, VC.callQ, VC.tailQ, VC.goCall, VC.chStep]
  refine ⟨ag6, ?_⟩
  refine OPW_appQg (a := ⟨w1.heap.size, 0, none⟩) (u := .int .i64 x) rfl Fa.apI23 rfl rfl hcell6 rfl hQ6 (by simpa using (by omega : (s.way i j).length ≤ 100000)) (by decide) fun v7 w7 ho7 hg7 hst7 => ?_
  have ag7 := ag6.trans (Agree.grown hg7 fun g hg => Or.inr hg)
  obtain ⟨c6, hc6⟩ : ∃ c6, c6 = if (v.M ((i : Int), (j : Int))).isSome = true then v.cnt else v.cnt + 1 := ⟨_, rfl⟩
  have hc6' : c6 ≤ v.cnt + 1 := by rw [hc6]; split <;> omega
  rw [← hc6] at st6 hM6
  have st6w : St B (XObs n a s v) w ((headO n a s { v with cnt := c6, M := updV v.M ((i : Int), (j : Int)) (v.qv (i * n + j)) } ++ procO n a s v ++ waitO n s v) ++ (wayO n s v ++ [])) w6 := by
    have := st6
    rw [XObs_way n a s { v with cnt := c6, M := updV v.M ((i : Int), (j : Int)) (v.qv (i * n + j)) }] at this
    exact this
  have ho7' : OwnQ w7 3 v7 ((s.way i j ++ [x]).map iV) := by rw [List.map_append]; exact ho7
  have st7 := st6w.trans (Hp.fgrown (vs := v.qv) (xs := fun t => (s.way (t / n) (t % n)).map iV) st6w.hp hij ho7' hg7 hst7)
  rw [wayO_upd (v := v) hi hj (s.way i j ++ [x]) v7 (msend i j x s) (fun a b => by
    show (if a = i ∧ b = j then s.way a b ++ [x] else s.way a b) = _
    split
    · rename_i hh; obtain ⟨rfl, rfl⟩ := hh; rfl
    · rfl)] at st7
  have st7 : St B (XObs n a s v) w (XObs n a (msend i j x s) { v with cnt := c6, M := updV v.M ((i : Int), (j : Int)) (v.qv (i * n + j)), qv := upd v.qv (i * n + j) v7 }) w7 := by
    rw [XObs_way n a (msend i j x s)]
    exact st7
  have hM7 : MapV Try.prog EW w7 a.mb c6 (updV v.M ((i : Int), (j : Int)) (v.qv (i * n + j))) := st7.hp.get 2 rfl
  have hS7 := hS6.agree (Agree.grown (X := fun g => (v.qv (i * n + j)).ownBlock = some g) hg7 fun g hg => hg) nqm
  simp -dsimp (maxSteps := 2000000) only [VC.heldF_done, VC.heldF_last, VC.planF_done, VC.planF_take, VC.planF_one, VC.planF_two, VC.planK_eq, VC.heldF_take, VC.heldF_one, VC.heldF_two, VC.heldF_twoL, VC.heldK_eq, VC.okRd, Fa.F120, rdM_of m1, m1, rdI_of k0, k0, rdI_of k1, k1, hwl, hkl, VC.Now, VC.vc, VC.lib, VC.mapN_drewN, VC.mapB_drewN, VC.regQ, VC.loopK, VC.reg, VC.opP, VC.opS, VC.opZ, VC.nomulB, VC.pv, VC.thenF, VC.blkF, VC.retF, VC.resV, VC.oneV, VC.evo, VC.bin, VC.binI, VC.cmpI, VC.arithI, VC.ldv, VC.slv, VC.pickP, VC.holds, VC.chainOf, VC.look, VC.junk, VC.put, VC.eff, VC.callee, VC.pureB, VC.rdK, VC.rdKs, VC.okKs, VC.eqKs, VC.fillL, VC.putL, VC.stW, VC.stOK, VC.mixF, VC.setAll, Nat.reduceAdd, Nat.reduceSub, Nat.reduceMul, if_true, if_false, ↓reduceIte, forall_const, implies_true, reduceCtorEq, ne_eq, Nat.reduceBNe, Nat.reduceBEq, IntKind.signed, Nat.reduceEqDiff, Nat.reduceLeDiff, Nat.reduceLT, eq_self, Int.reduceEq, Int.reduceLT, Int.reduceLE, Int.reduceAdd, Int.reduceSub, VC.regC_nil, VC.regC_cons, VC.regCK_eq, VC.callQ, VC.tailQ, VC.goCall, VC.chStep]
  refine ⟨ag7, ?_⟩
  refine OPW_estV (x := ((i : Int), (j : Int))) hM7 hS7 rfl (by kernel_rfl) rfl rfl rfl hkey (by unfold maxLen; omega) fun w8 hM8 ht8 => ?_
  rw [updV_updV] at hM8
  have st8 := st7.trans (st7.hp.turned 2 rfl hM8 ht8)
  simp -dsimp (maxSteps := 2000000) only [VC.heldF_done, VC.heldF_last, VC.planF_done, VC.planF_take, VC.planF_one, VC.planF_two, VC.planK_eq, VC.heldF_take, VC.heldF_one, VC.heldF_two, VC.heldF_twoL, VC.heldK_eq, VC.okRd, Fa.F120, hwl, VC.Now, VC.vc, VC.lib, VC.mapN_drewN, VC.mapB_drewN, VC.regQ, VC.loopK, VC.reg, VC.opP, VC.opS, VC.opZ, VC.nomulB, VC.pv, VC.thenF, VC.blkF, VC.retF, VC.resV, VC.oneV, VC.evo, VC.bin, VC.binI, VC.cmpI, VC.arithI, VC.ldv, VC.slv, VC.pickP, VC.holds, VC.chainOf, VC.look, VC.junk, VC.put, VC.eff, VC.callee, VC.pureB, VC.rdK, VC.rdKs, VC.okKs, VC.eqKs, VC.fillL, VC.putL, VC.stW, VC.stOK, VC.mixF, VC.setAll, Nat.reduceAdd, Nat.reduceSub, Nat.reduceMul, if_true, if_false, ↓reduceIte, forall_const, implies_true, reduceCtorEq, ne_eq, Nat.reduceBNe, Nat.reduceBEq, IntKind.signed, Nat.reduceEqDiff, Nat.reduceLeDiff, Nat.reduceLT, eq_self, Int.reduceEq, Int.reduceLT, Int.reduceLE, Int.reduceAdd, Int.reduceSub, VC.regC_nil, VC.regC_cons, VC.regCK_eq, VC.callQ, VC.tailQ, VC.goCall, VC.chStep]
  exact ⟨{ v with cnt := c6, M := updV v.M ((i : Int), (j : Int)) v7, qv := upd v.qv (i * n + j) v7 }, st8, hv.upd hi hj, rfl, rfl, hc6'⟩
end
end Go.Proofs.Ytelfmhiaafkimaa
