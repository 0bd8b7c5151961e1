/- One in at a time: the program's whole run. -/
import Derived.Test.YtelfmhiaafkimaaMx6
import Derived.Test.YtelfmhiaafkimaaFamHp2
import Derived.Test.YtelfmhiaafkimaaSums
import Derived.Test.YtelfmhiaafkimaaTbl
namespace Go.Proofs.Ytelfmhiaafkimaa
open Go Go.RowKit Go.VC
set_option linter.unusedSimpArgs false
set_option linter.unusedVariables false
def mst (n : Nat) (f : Nat → MoveC) : Nat → MxS
  | 0 => mx0
  | k + 1 => (mxstep n (f k) (mst n f k)).2
def mcode (n : Nat) (f : Nat → MoveC) (k : Nat) : Int := (mxstep n (f k) (mst n f k)).1
theorem mst_mb {n : Nat} (hn : n ≤ 6) (f : Nat → MoveC) : ∀ k, k ≤ 120 → MB (125 * k) k n (mst n f k)
  | 0, _ => mb0 n
  | k + 1, hk => mb_step (mst_mb hn f k (by omega)) (by omega) hn
noncomputable abbrev mcodes (n : Nat) (f : Nat → MoveC) (k : Nat) : List Value := (List.range k).map fun i => Value.int .i64 (mcode n f i)
theorem mcodes_succ (n : Nat) (f : Nat → MoveC) (k : Nat) : mcodes n f (k + 1) = mcodes n f k ++ [.int .i64 (mxstep n (f k) (mst n f k)).1] := by
  unfold mcodes; rw [List.range_succ, List.map_append]; rfl
def insideL (s : MxS) (k : Nat) : List Nat := (List.range k).filter fun i => decide ((s.pr i).how = 2)
theorem insideL_succ (s : MxS) (k : Nat) : insideL s (k + 1) = if (s.pr k).how = 2 then insideL s k ++ [k] else insideL s k := by
  unfold insideL
  rw [List.range_succ, List.filter_append]
  by_cases e : (s.pr k).how = 2
  · rw [if_pos e, List.filter_cons, if_pos (by simpa using e)]; rfl
  · rw [if_neg e, List.filter_cons, if_neg (by simpa using e)]; simp
theorem insideL_len (s : MxS) (k : Nat) : (insideL s k).length ≤ k := by
  unfold insideL
  exact Nat.le_trans (List.length_filter_le ..) (by simp)
def mlen (s : MxS) (i j : Nat) : Nat := (s.way i j).length
/-- What is on its way. -/
def maway (n : Nat) (s : MxS) : Int := sum2 n fun i j => (mlen s i j : Int)
def MxQ (n k : Nat) (codes : List Int) (s : MxS) (v : Value) (w : World) : Prop :=
  ∃ A0 c0 A1 c1 A2 c2, v = .agg #[.slice A0 k c0, .slice A1 s.inn.length c1, .slice A2 (insideL s n).length c2, .int .i64 (maway n s)] ∧ codes.length = k ∧ Rd w A0 (codes.map (Value.int .i64)) ∧ Rd w A1 (natL s.inn) ∧ Rd w A2 (natL (insideL s n))
theorem MxQ.below {n k : Nat} {codes : List Int} {s : MxS} {v : Value} {w w' : World} (h : MxQ n k codes s v w) (hB : Below w.heap.size w w') : MxQ n k codes s v w' := by
  obtain ⟨A0, c0, A1, c1, A2, c2, h0, h1, h2, h3, h4⟩ := h
  exact ⟨A0, c0, A1, c1, A2, c2, h0, h1, h2.below hB, h3.below hB, h4.below hB⟩
theorem perm5 {α : Type} (q a b c d : α) : [q, a, b, c, d].Perm [d, a, b, c, q] := (List.perm_append_comm (l₁ := [q]) (l₂ := [a, b, c, d])).trans ((List.perm_append_comm (l₁ := [a, b, c]) (l₂ := [d])).append_right [q])
abbrev p0 : MP := ⟨0, 0, 0, 0, []⟩
theorem leftS_allX {n : Nat} {s : MxS} {v : XV} {w : World} (hv : XM n v) (hq : ∀ i j, i < n → j < n → OwnQ w 3 (v.qv (i * n + j)) ((s.way i j).map iV)) : leftS n (mlen s) (fun x => (v.M x).isSome = true) = sum2 n fun i j => (mlen s i j : Int) := by
  unfold leftS
  refine sum2_congr fun i j hi hj => ?_
  by_cases e : (v.M ((i : Int), (j : Int))).isSome = true
  · rw [if_pos e]
  · rw [if_neg e]
    have h1 := hv.val i j hi hj
    rw [Option.not_isSome_iff_eq_none.1 e] at h1
    obtain ⟨A, c, h2⟩ := (hq i j hi hj).form
    rw [← show nilS = v.qv (i * n + j) from h1] at h2
    simp only [nilS, Value.slice.injEq] at h2
    have h3 := h2.2.1
    rw [List.length_map] at h3
    unfold mlen
    omega
section
variable {w : World}
set_option maxRecDepth 8000 in
set_option maxHeartbeats 8000000 in
theorem mutex_any (A : Option Addr) (n len cap : Nat) (g : Nat → MoveC) (w : World) (hr : RdT w A len 3 (fun i => moveL (g i))) (h1 : 1 ≤ n) (hn : n ≤ 6) (hlen : len ≤ 120) :
    Calls Try.prog 30 #[.int .i64 n, .slice A len cap] w fun e w' => ∃ v, e = .returned (.tuple #[v, .int .i64 0]) ∧ MxQ n len ((List.range len).map (mcode n g)) (mst n g len) v w' ∧ Below w.heap.size w w' := by
  have e1 : ((n : Int) < 1) = False := eq_false (by omega)
  have e2 : ((6 : Int) < n) = False := eq_false (by omega)
  have e3 : ((120 : Int) < len) = False := eq_false (by omega)
  have hB0 : Below w.heap.size w (w.alloc (.cells #[nilS, nilS, nilS, .int .i64 0] 72)) := (Below.refl _ _).alloc (Nat.le_refl _) _
  have hH0 := (Hp.nil (B := w.heap.size) (Nat.le_refl _)).st_add (o := oBox w.heap.size [nilS, nilS, nilS, .int .i64 0]) hB0 (Box.new w _ _) (fun g hg => by cases hg; exact Nat.le_refl _)
  replace hH0 := hH0.hp
  have hz0 : (w.alloc (.cells #[nilS, nilS, nilS, .int .i64 0] 72)).heap.size = w.heap.size + 1 := by simp
  refine calls_vc (rs := [.cell 4 72, .tmp 5]) Fa.mix Try.func30 rfl Try.ntmps30 rfl (by kernel_rfl) (Nat.le_of_ble_eq_true rfl) ?_
  (repeat rw [vc_seq]); refine vc_plain _ fun Q hQ => ?_; simp -dsimp (maxSteps := 2000000) only [Fa.F30, e1, e2, e3, VC.Now, VC.vc_skip, VC.vc_ret, VC.vc_exit, VC.vc_block, VC.vc_cond, VC.vc_region, VC.lib, VC.mapN_drewN, VC.mapB_drewN, VC.regQ, VC.loopK, VC.reg, VC.opP, VC.opS, VC.opZ, VC.nomulB, VC.pv, VC.thenF, VC.blkF, VC.retF, VC.resV, VC.oneV, VC.evo, VC.bin, VC.binI, VC.cmpI, VC.arithI, VC.ldv, VC.slv, VC.pickP, VC.holds, VC.chainOf, VC.look, VC.junk, VC.put, VC.eff, VC.callee, VC.pureB, VC.rdK, VC.rdKs, VC.okKs, VC.eqKs, VC.fillL, VC.putL, VC.stW, VC.stOK, VC.mixF, VC.setAll, Nat.reduceAdd, Nat.reduceSub, Nat.reduceMul, if_true, if_false, ↓reduceIte, forall_const, implies_true, reduceCtorEq, ne_eq, Nat.reduceBNe, Nat.reduceBEq, IntKind.signed, Nat.reduceEqDiff, Nat.reduceLeDiff, Nat.reduceLT, eq_self, Int.reduceEq, Int.reduceLT, Int.reduceLE, Int.reduceAdd, Int.reduceSub, VC.regC_nil, VC.regC_cons, VC.regCK_eq, VC.callQ, VC.tailQ, VC.goCall, VC.chStep]
  change Q _ _ (w.alloc (.cells #[nilS, nilS, nilS, .int .i64 0] 72))
  generalize w.alloc (.cells #[nilS, nilS, nilS, .int .i64 0] 72) = wa at hH0 hB0 hz0 ⊢
  generalize hrb : w.heap.size = rb at hH0 hB0 hz0 ⊢
  subst hQ
  simp -dsimp (maxSteps := 2000000) only [Fa.F30, e1, e2, e3, VC.Now, VC.vc, VC.lib, VC.mapN_drewN, VC.mapB_drewN, VC.regQ, VC.loopK, VC.reg, VC.opP, VC.opS, VC.opZ, VC.nomulB, VC.pv, VC.thenF, VC.blkF, VC.retF, VC.resV, VC.oneV, VC.evo, VC.bin, VC.binI, VC.cmpI, VC.arithI, VC.ldv, VC.slv, VC.pickP, VC.holds, VC.chainOf, VC.look, VC.junk, VC.put, VC.eff, VC.callee, VC.pureB, VC.rdK, VC.rdKs, VC.okKs, VC.eqKs, VC.fillL, VC.putL, VC.mixF, VC.setAll, Nat.reduceAdd, Nat.reduceSub, Nat.reduceMul, if_true, if_false, ↓reduceIte, forall_const, implies_true, reduceCtorEq, ne_eq, Nat.reduceBNe, Nat.reduceBEq, IntKind.signed, Nat.reduceEqDiff, Nat.reduceLeDiff, Nat.reduceLT, eq_self, Int.reduceEq, Int.reduceLT, Int.reduceLE, Int.reduceAdd, Int.reduceSub, VC.regC_nil, VC.regC_cons, VC.regCK_eq, VC.callQ, VC.tailQ, VC.goCall, VC.chStep]
  intro u
  refine OPW_makeMapV EW rfl fun w5 hw5 hM5 => ?_
  have hB5 : Below wa.heap.size wa w5 := by rw [hw5]; exact (Below.refl _ wa).alloc (Nat.le_refl _) _
  have hz5 : w5.heap.size = wa.heap.size + 1 := by rw [hw5]; simp
  have hH2 := (hH0.st_add (o := oMap EW wa.heap.size 0 (fun _ => none)) hB5 hM5 (fun g hg => by cases hg; exact Nat.le_refl _)).hp
  have hBc := hB0.trans (hB5.mono (by have := hB0.size; omega))
  rw [VC.Now, VC.seqK_eq]
  clear hw5 hM5
  generalize hmc : wa.heap.size = mb at hH2 hz5 ⊢
  have hw6 : rb ≤ w5.heap.size := by have := hB0.size; have := hB5.size; omega
  simp -dsimp (maxSteps := 2000000) only [Fa.F30, e1, e2, e3, VC.Now, VC.vc, VC.lib, VC.mapN_drewN, VC.mapB_drewN, VC.regQ, VC.loopK, VC.reg, VC.opP, VC.opS, VC.opZ, VC.nomulB, VC.pv, VC.thenF, VC.blkF, VC.retF, VC.resV, VC.oneV, VC.evo, VC.bin, VC.binI, VC.cmpI, VC.arithI, VC.ldv, VC.slv, VC.pickP, VC.holds, VC.chainOf, VC.look, VC.junk, VC.put, VC.eff, VC.callee, VC.pureB, VC.rdK, VC.rdKs, VC.okKs, VC.eqKs, VC.fillL, VC.putL, VC.mixF, VC.setAll, Nat.reduceAdd, Nat.reduceSub, Nat.reduceMul, if_true, if_false, ↓reduceIte, forall_const, implies_true, reduceCtorEq, ne_eq, Nat.reduceBNe, Nat.reduceBEq, IntKind.signed, Nat.reduceEqDiff, Nat.reduceLeDiff, Nat.reduceLT, eq_self, Int.reduceEq, Int.reduceLT, Int.reduceLE, Int.reduceAdd, Int.reduceSub, VC.regC_nil, VC.regC_cons, VC.regCK_eq, VC.callQ, VC.tailQ, VC.goCall, VC.chStep]
  have hH4 := (hH2.st_add (o := oBox w5.heap.size [nilS, .map (some mb), nilS]) ((Below.refl _ _).alloc (Nat.le_refl _) (.cells _ _)) (Box.new w5 _ 187) (fun g hg => by cases hg; exact Nat.le_refl _)).hp
  have hBe : Below rb w _ := hBc.trans (((Below.refl w5.heap.size w5).alloc (Nat.le_refl _) (.cells [nilS, .map (some mb), nilS].toArray 187)).mono hw6)
  change WP _ _ _ _ _ _ (w5.alloc (.cells [nilS, .map (some mb), nilS].toArray 187))
  generalize w5.alloc (.cells [nilS, .map (some mb), nilS].toArray 187) = w7 at hH4 hBe ⊢
  generalize hwb : w5.heap.size = wb at hH4 ⊢
  have hH7 := (hH4.st_add (o := oOwn 188 1 0 nilS []) (Below.refl _ _) (OwnK.nil _ _ _ _) (fun g hg => by cases hg)).hp
  clear hH0 hH2 hH4 hB0 hBc hB5
  refine loop_slots Fa.mix [30] [31, 32, 33, 34, 35, 36, 37, 38, 39, 40, 41, 42, 43] (fun m vs wx => ∃ (k : Nat) (pbs : Nat → Nat) (vp : Value), k + m = n ∧ vs = [.int .i64 k] ∧ Below rb w wx ∧
      Hp rb ([oOwn 188 1 k vp ((List.range k).map fun i => ptrV (pbs i)), oBox wb [vp, .map (some mb), nilS], oMap EW mb 0 (fun _ => none), oBox rb [nilS, nilS, nilS, .int .i64 0]] ++ fam k (fun i => oBox (pbs i) (mpL p0 nilS))) wx) n (by kernel_rfl) rfl
    ⟨0, fun _ => 0, nilS, by omega, rfl, hBe, hH7⟩ ?_
  clear hH7 hBe
  rintro m vs u2 wx ⟨k, pbs, vp, hkm, rfl, hBx, hH⟩
  by_cases hk : k < n
  · have e7 : ((k : Int) < n) = True := eq_true (by omega)
    obtain ⟨Ap, cp, rfl, _⟩ := id (hH.get 0 rfl : OwnK wx 0 188 1 k vp _)
    have bw : Box wx wb [.slice Ap k cp, .map (some mb), nilS] := hH.get 1 rfl
    have y0 := bw.at (i := 0) rfl
    have hwl := bw.1
    simp -dsimp (maxSteps := 2000000) only [Fa.F30, e7, rdSA_of y0, rdSN_of y0, rdSC_of y0, y0, hwl, VC.Now, VC.vc, VC.lib, VC.mapN_drewN, VC.mapB_drewN, VC.regQ, VC.loopK, VC.reg, VC.opP, VC.opS, VC.opZ, VC.nomulB, VC.pv, VC.thenF, VC.blkF, VC.retF, VC.resV, VC.oneV, VC.evo, VC.bin, VC.binI, VC.cmpI, VC.arithI, VC.ldv, VC.slv, VC.pickP, VC.holds, VC.chainOf, VC.look, VC.junk, VC.put, VC.eff, VC.callee, VC.pureB, VC.rdK, VC.rdKs, VC.okKs, VC.eqKs, VC.fillL, VC.putL, VC.mixF, VC.setAll, Nat.reduceAdd, Nat.reduceSub, Nat.reduceMul, if_true, if_false, ↓reduceIte, forall_const, implies_true, reduceCtorEq, ne_eq, Nat.reduceBNe, Nat.reduceBEq, IntKind.signed, Nat.reduceEqDiff, Nat.reduceLeDiff, Nat.reduceLT, eq_self, Int.reduceEq, Int.reduceLT, Int.reduceLE, Int.reduceAdd, Int.reduceSub, VC.regC_nil, VC.regC_cons, VC.regCK_eq, VC.callQ, VC.tailQ, VC.goCall, VC.chStep]
    have hbx : Box (wx.alloc (.cells (mpL p0 nilS).toArray 190)) wx.heap.size (mpL p0 nilS) := Box.new wx _ _
    have hBs : Below wx.heap.size wx (wx.alloc (.cells (mpL p0 nilS).toArray 190)) := (Below.refl _ _).alloc (Nat.le_refl _) _
    have hzs : (wx.alloc (.cells (mpL p0 nilS).toArray 190)).heap.size = wx.heap.size + 1 := by simp
    have hA := (hH.st_add (o := oBox wx.heap.size (mpL p0 nilS)) hBs hbx (fun g hg => by cases hg; exact Nat.le_refl _)).hp
    have hBy := hBx.trans (hBs.mono hH.base)
    change OPW _ _ _ ((wx.alloc (.cells (mpL p0 nilS).toArray 190)).alloc _) _
    generalize wx.alloc (.cells (mpL p0 nilS).toArray 190) = wy at hA hBy hzs ⊢
    clear hBs hbx
    generalize wx.heap.size = pb at hA hzs ⊢
    have hA2 := hA.perm (List.perm_append_singleton _ _).symm
    rw [List.append_assoc] at hA2
    have hA3 : Hp rb ([oOwn 188 1 k (.slice Ap k cp) ((List.range k).map fun i => ptrV (pbs i)), oBox wb [.slice Ap k cp, .map (some mb), nilS], oMap EW mb 0 (fun _ => none), oBox rb [nilS, nilS, nilS, .int .i64 0]] ++ fam (k + 1) (fun i => oBox (upd pbs k pb i) (mpL p0 nilS))) wy := by
      rw [fam_succ, fam_congr (G := fun i => oBox (pbs i) (mpL p0 nilS)) (fun i hi => by rw [upd_other (show i ≠ k by omega)]), upd_same]
      exact hA2
    refine OPW_appN (us := [ptrV pb]) (G := pb + 1) hzs.symm rfl Fa.apI185 rfl rfl rfl (by simp [Value.oneCell']) (hA3.get 0 rfl) (Nat.zero_le _) (by omega) (by decide) fun v5 w5 ho5 hg5 hst5 => ?_
    have hpl : ((List.range k).map fun i => ptrV (pbs i)) ++ [ptrV pb] = (List.range (k + 1)).map fun i => ptrV (upd pbs k pb i) := by
      rw [List.range_succ, List.map_append]
      congr 1
      · exact List.map_congr_left fun i hi => by rw [upd_other (show i ≠ k from Nat.ne_of_lt (by simpa using hi))]
      · simp [upd_same]
    rw [hpl] at ho5
    obtain ⟨⟨r1, r2⟩, st6⟩ := hA3.growField 1 0 rfl rfl (by decide) ho5 hg5 hst5 0 (by show 0 < 3; omega)
    obtain ⟨A5, c5, rfl, _⟩ := id ho5
    have hwl5 : wb < w5.heap.size := by simpa using (st6.hp.get 1 rfl : Box _ wb _).1
    rw [VC.Now, VC.seqK_eq]
    simp -dsimp (maxSteps := 2000000) only [Fa.F30, hwl5, VC.Now, VC.vc, VC.lib, VC.mapN_drewN, VC.mapB_drewN, VC.regQ, VC.loopK, VC.reg, VC.opP, VC.opS, VC.opZ, VC.nomulB, VC.pv, VC.thenF, VC.blkF, VC.retF, VC.resV, VC.oneV, VC.evo, VC.bin, VC.binI, VC.cmpI, VC.arithI, VC.ldv, VC.slv, VC.pickP, VC.holds, VC.chainOf, VC.look, VC.junk, VC.put, VC.eff, VC.callee, VC.pureB, VC.rdK, VC.rdKs, VC.okKs, VC.eqKs, VC.fillL, VC.putL, VC.stW, VC.stOK, VC.mixF, VC.setAll, Nat.reduceAdd, Nat.reduceSub, Nat.reduceMul, if_true, if_false, ↓reduceIte, forall_const, implies_true, reduceCtorEq, ne_eq, Nat.reduceBNe, Nat.reduceBEq, IntKind.signed, Nat.reduceEqDiff, Nat.reduceLeDiff, Nat.reduceLT, eq_self, Int.reduceEq, Int.reduceLT, Int.reduceLE, Int.reduceAdd, Int.reduceSub, VC.regC_nil, VC.regC_cons, VC.regCK_eq, VC.callQ, VC.tailQ, VC.goCall, VC.chStep]
    refine ⟨⟨r1, r2⟩, fits_i64_nat (by omega), SAME.intro (by kernel_rfl), m - 1, by omega, k + 1, upd pbs k pb, .slice A5 (k + 1) c5, by omega, rfl, hBy.trans (st6.below hA3), st6.hp⟩
  · obtain rfl : k = n := by omega
    have e7 : ((k : Int) < k) = False := eq_false (by omega)
    obtain ⟨gp, gc, rfl, _, hgp⟩ := OwnK.form (hH.get 0 rfl : OwnK wx 0 188 1 k vp _) h1
    have hH1 := hH.reword 0 rfl (o' := oBox gp ((List.range k).map fun i => ptrV (pbs i))) (Box.of_own (hH.get 0 rfl : OwnK wx 0 188 1 k (.slice (some ⟨gp, 0, none⟩) k gc) _) hgp) rfl
    have hH2 := hH1.perm (L' := [oBox wb [.slice (some ⟨gp, 0, none⟩) k gc, .map (some mb), nilS], oBox gp ((List.range k).map fun i => ptrV (pbs i)), oMap EW mb 0 (fun _ => none), oBox rb [nilS, nilS, nilS, .int .i64 0]] ++ fam k (fun i => oBox (pbs i) (mpL p0 nilS))) (by exact List.Perm.append_right _ (List.Perm.swap ..))
    have hH3 : Hp rb ([oBox rb [nilS, nilS, nilS, .int .i64 0]] ++ XObs k ⟨wb, gp, gc, mb, pbs⟩ mx0 ⟨0, fun _ => none, nilS, fun _ => nilS, fun _ => nilS⟩) wx := by
      have h4 := (hH2.st_add (o := oOwn 3 1 0 nilS []) (Below.refl _ _) (OwnK.nil _ _ _ _) (fun g hg => by cases hg)).hp
      have h5 := h4.free (M := fam k (fun _ => oOwn 3 1 0 nilS []) ++ fam (k * k) (fun _ => oQ 3 nilS [])) (fun o ho => by
        rcases List.mem_append.1 ho with ho | ho
        · obtain ⟨i, _, rfl⟩ := List.mem_map.1 ho; exact ⟨OwnK.nil _ _ _ _, rfl⟩
        · obtain ⟨i, _, rfl⟩ := List.mem_map.1 ho; exact ⟨OwnQ.nil _ _, rfl⟩)
      rw [← List.cons_append, List.append_assoc] at h5
      exact h5.perm (List.Perm.append_right _ (perm5 _ _ _ _ _))
    clear hH hH1 hH2
    simp -dsimp (maxSteps := 2000000) only [Fa.F30, e7, VC.Now, VC.vc, VC.lib, VC.mapN_drewN, VC.mapB_drewN, VC.regQ, VC.loopK, VC.reg, VC.opP, VC.opS, VC.opZ, VC.nomulB, VC.pv, VC.thenF, VC.blkF, VC.retF, VC.resV, VC.oneV, VC.evo, VC.bin, VC.binI, VC.cmpI, VC.arithI, VC.ldv, VC.slv, VC.pickP, VC.holds, VC.chainOf, VC.look, VC.junk, VC.put, VC.eff, VC.callee, VC.pureB, VC.rdK, VC.rdKs, VC.okKs, VC.eqKs, VC.fillL, VC.putL, VC.mixF, VC.setAll, Nat.reduceAdd, Nat.reduceSub, Nat.reduceMul, if_true, if_false, ↓reduceIte, forall_const, implies_true, reduceCtorEq, ne_eq, Nat.reduceBNe, Nat.reduceBEq, IntKind.signed, Nat.reduceEqDiff, Nat.reduceLeDiff, Nat.reduceLT, eq_self, Int.reduceEq, Int.reduceLT, Int.reduceLE, Int.reduceAdd, Int.reduceSub, VC.regC_nil, VC.regC_cons, VC.regCK_eq, VC.callQ, VC.tailQ, VC.goCall, VC.chStep]
    have hHo := (hH3.st_add (o := oBox wx.heap.size [nilS, nilS, nilS, .int .i64 0]) ((Below.refl _ _).alloc (Nat.le_refl _) (.cells _ _)) (Box.new wx _ 72) (fun g hg => by cases hg; exact Nat.le_refl _)).hp
    have hBo : Below rb w _ := hBx.trans (((Below.refl wx.heap.size wx).alloc (Nat.le_refl _) (.cells [nilS, nilS, nilS, .int .i64 0].toArray 72)).mono hH3.base)
    change WP _ _ _ _ _ _ (wx.alloc (.cells [nilS, nilS, nilS, .int .i64 0].toArray 72))
    generalize wx.alloc (.cells [nilS, nilS, nilS, .int .i64 0].toArray 72) = w9 at hHo hBo ⊢
    generalize wx.heap.size = b7 at hHo ⊢
    have hHs := (hHo.st_add (o := oOwn 24 1 0 nilS []) (Below.refl _ _) (OwnK.nil _ _ _ _) (fun g hg => by cases hg)).hp
    clear hHo hH3 hBx
    refine loop_slots Fa.mix [46] [9, 47, 48, 49, 50, 51, 52, 53, 54, 55, 56, 57, 58] (fun m vs wx => ∃ (t : Nat) (v : XV) (vc : Value), t + m = len ∧ vs = [.int .i64 t] ∧ v.cnt ≤ 200 * t ∧ XM k v ∧ Below rb w wx ∧
      Hp rb ([oOwn 24 1 t vc (mcodes k g t), oBox b7 [vc, nilS, nilS, .int .i64 0], oBox rb [nilS, nilS, nilS, .int .i64 0]] ++ XObs k ⟨wb, gp, gc, mb, pbs⟩ (mst k g t) v) wx) len (by kernel_rfl) rfl
      ⟨0, ⟨0, fun _ => none, nilS, fun _ => nilS, fun _ => nilS⟩, nilS, by omega, rfl, Nat.le_refl _, ⟨fun x hx => (by cases hx), fun i j _ _ => rfl⟩, hBo, hHs⟩ ?_
    clear hHs hBo
    rename_i k0
    rintro m vs u3 wx ⟨t, q, vc, hkm, rfl, hkc, hq, hBx, hH⟩
    by_cases ht : t < len
    · have hqb := mst_mb hn g t (by omega)
      obtain ⟨b, o, rfl, hb, hc⟩ := (hr.below (by rw [hrb]; exact hBx)) (by omega)
      have s0 := hc t ht 0 _ rfl
      have s1 := hc t ht 1 _ rfl
      have s2 := hc t ht 2 _ rfl
      simp only [Nat.add_zero] at s0
      have e8 : ((t : Int) < len) = True := eq_true (by omega)
      have hms : mst k g (t + 1) = (mxstep k (g t) (mst k g t)).2 := rfl
      have hmc := mcodes_succ k g t
      generalize mst k g t = s at *
      generalize hgk : g t = c at *
      obtain ⟨Ac, cc, ec, _⟩ := id (hH.get 0 rfl : OwnK wx 0 24 1 t vc _)
      simp -dsimp (maxSteps := 2000000) only [Fa.F30, e8, rdI_of s0, s0, rdI_of s1, s1, rdI_of s2, s2, hb, Int.toNat_natCast, VC.Now, VC.vc, VC.lib, VC.mapN_drewN, VC.mapB_drewN, VC.regQ, VC.loopK, VC.reg, VC.opP, VC.opS, VC.opZ, VC.nomulB, VC.pv, VC.thenF, VC.blkF, VC.retF, VC.resV, VC.oneV, VC.evo, VC.bin, VC.binI, VC.cmpI, VC.arithI, VC.ldv, VC.slv, VC.pickP, VC.holds, VC.chainOf, VC.look, VC.junk, VC.put, VC.eff, VC.callee, VC.pureB, VC.rdK, VC.rdKs, VC.okKs, VC.eqKs, VC.fillL, VC.putL, VC.stW, VC.stOK, VC.mixF, VC.setAll, Nat.reduceAdd, Nat.reduceSub, Nat.reduceMul, if_true, if_false, ↓reduceIte, forall_const, implies_true, reduceCtorEq, ne_eq, Nat.reduceBNe, Nat.reduceBEq, IntKind.signed, Nat.reduceEqDiff, Nat.reduceLeDiff, Nat.reduceLT, eq_self, Int.reduceEq, Int.reduceLT, Int.reduceLE, Int.reduceAdd, Int.reduceSub, VC.regC_nil, VC.regC_cons, VC.regCK_eq, VC.callQ, VC.tailQ, VC.goCall, VC.chStep]
      refine ⟨by omega, ?_⟩
      have hsay : Box (wx.alloc (.cells (moveL c).toArray 192)) wx.heap.size (moveL c) := Box.new wx _ _
      have hBs : Below wx.heap.size wx (wx.alloc (.cells (moveL c).toArray 192)) := (Below.refl _ _).alloc (Nat.le_refl _) _
      change WP _ _ _ _ _ _ (wx.alloc (.cells (moveL c).toArray 192))
      generalize wx.alloc (.cells (moveL c).toArray 192) = wy at hsay hBs ⊢
      have hHy := (hH.below hBs).perm (List.perm_append_comm)
      have hBy : Below rb w wy := hBx.trans (hBs.mono hH.base)
      have nsay : ¬ foot (XObs k ⟨wb, gp, gc, mb, pbs⟩ s q) wx.heap.size := fun hf => by have := ((hH.perm (List.perm_append_comm)).left.foot_lt hf).2; omega
      have nsc : vc.ownBlock ≠ some wx.heap.size := fun hf => by have := (hH.lt 0 rfl hf).2; omega
      generalize wx.heap.size = sb at hsay hBs nsay nsc ⊢
      have hby := hsay.1
      have z0 := hsay.at (i := 0) rfl
      have z1 := hsay.at (i := 1) rfl
      have z2 := hsay.at (i := 2) rfl
      have hHz := hHy.perm (List.perm_append_comm)
      have y1 := (hHz.get 1 rfl : Box wy b7 _).at (i := 0) rfl
      rw [ec] at y1
      have hwl := (hHz.get 1 rfl : Box wy b7 _).1
      have n7 : ¬ foot (XObs k ⟨wb, gp, gc, mb, pbs⟩ s q) b7 := hHy.not_foot 1 rfl rfl
      have n7c : vc.ownBlock ≠ some b7 := fun hf => hHz.ne 0 1 (by decide) rfl rfl _ hf rfl
      have hHd := hHy.drewN 1
      have ag0 : Agree (fun j => foot (XObs k ⟨wb, gp, gc, mb, pbs⟩ s q) j ∨ vc.ownBlock = some j) wy (wy.drewN 1) := Agree.of_below (below_drewN (Below.refl _ wy) 1)
      refine WP_held 8 (fun j => foot (XObs k ⟨wb, gp, gc, mb, pbs⟩ s q) j ∨ vc.ownBlock = some j) (.take 0 (.take 1 (.take 2 (.take 3 (.one 4 (.one 5 (.one 6 (.take 7 (.one 8 .done))))))))) Fa.mix (by kernel_rfl) rfl ?_
      simp -dsimp (maxSteps := 2000000) only [VC.heldF_done, VC.heldF_last, VC.planF_done, VC.planF_take, VC.planF_one, VC.planF_two, VC.planK_eq, VC.heldF_take, VC.heldF_one, VC.heldF_two, VC.heldF_twoL, VC.heldK_eq, VC.okRd, Fa.F30, rdI_of z0, z0, rdI_of z1, z1, rdI_of z2, z2, rdSA_of y1, rdSN_of y1, rdSC_of y1, y1, hwl, VC.Now, VC.vc, VC.lib, VC.mapN_drewN, VC.mapB_drewN, VC.regQ, VC.loopK, VC.reg, VC.opP, VC.opS, VC.opZ, VC.nomulB, VC.pv, VC.thenF, VC.blkF, VC.retF, VC.resV, VC.oneV, VC.evo, VC.bin, VC.binI, VC.cmpI, VC.arithI, VC.ldv, VC.slv, VC.pickP, VC.holds, VC.chainOf, VC.look, VC.junk, VC.put, VC.eff, VC.callee, VC.pureB, VC.rdK, VC.rdKs, VC.okKs, VC.eqKs, VC.fillL, VC.putL, VC.stW, VC.stOK, VC.mixF, VC.setAll, Nat.reduceAdd, Nat.reduceSub, Nat.reduceMul, if_true, if_false, ↓reduceIte, forall_const, implies_true, reduceCtorEq, ne_eq, Nat.reduceBNe, Nat.reduceBEq, IntKind.signed, Nat.reduceEqDiff, Nat.reduceLeDiff, Nat.reduceLT, eq_self, Int.reduceEq, Int.reduceLT, Int.reduceLE, Int.reduceAdd, Int.reduceSub, VC.regC_nil, VC.regC_cons, VC.regCK_eq, VC.callQ, VC.tailQ, VC.goCall, VC.chStep]
      refine ⟨fun h => h.elim n7 n7c, ⟨hby, fun h => h.elim nsay nsc⟩, ?_⟩
      refine CALL_by (mstep_any hHd.left hq hqb (by omega) hn (by omega) c) fun e w4 hp => ⟨_, hp.1, ?_⟩
      obtain ⟨_, q', st4, hq', hkc'⟩ := hp
      have st5 := (st4.part hHd).perm List.perm_append_comm List.perm_append_comm
      have ag4 := ag0.trans (st4.agree.mono fun j _ hj => Or.inl hj)
      have hH4 := st5.hp
      have y2 := (hH4.get 1 rfl : Box w4 b7 _).at (i := 0) rfl
      have hw4 := (hH4.get 1 rfl : Box w4 b7 _).1
      rw [ec] at y2
      simp -dsimp (maxSteps := 2000000) only [VC.heldF_done, VC.heldF_last, VC.planF_done, VC.planF_take, VC.planF_one, VC.planF_two, VC.planK_eq, VC.heldF_take, VC.heldF_one, VC.heldF_two, VC.heldF_twoL, VC.heldK_eq, VC.okRd, Fa.F30, rdSA_of y1, rdSN_of y1, rdSC_of y1, y1, hwl, hw4, rdSA_of y2, rdSN_of y2, rdSC_of y2, y2, VC.Now, VC.vc, VC.lib, VC.mapN_drewN, VC.mapB_drewN, VC.regQ, VC.loopK, VC.reg, VC.opP, VC.opS, VC.opZ, VC.nomulB, VC.pv, VC.thenF, VC.blkF, VC.retF, VC.resV, VC.oneV, VC.evo, VC.bin, VC.binI, VC.cmpI, VC.arithI, VC.ldv, VC.slv, VC.pickP, VC.holds, VC.chainOf, VC.look, VC.junk, VC.put, VC.eff, VC.callee, VC.pureB, VC.rdK, VC.rdKs, VC.okKs, VC.eqKs, VC.fillL, VC.putL, VC.stW, VC.stOK, VC.mixF, VC.setAll, Nat.reduceAdd, Nat.reduceSub, Nat.reduceMul, if_true, if_false, ↓reduceIte, forall_const, implies_true, reduceCtorEq, ne_eq, Nat.reduceBNe, Nat.reduceBEq, IntKind.signed, Nat.reduceEqDiff, Nat.reduceLeDiff, Nat.reduceLT, eq_self, Int.reduceEq, Int.reduceLT, Int.reduceLE, Int.reduceAdd, Int.reduceSub, VC.regC_nil, VC.regC_cons, VC.regCK_eq, VC.callQ, VC.tailQ, VC.goCall, VC.chStep]
      refine ⟨ag4, ag4.trans (Agree.of_below ((Below.refl _ _).alloc (Nat.le_refl _) _)), ?_⟩
      refine OPW_appK (v := vc) rfl Fa.apI33 (by rw [ec]; rfl) rfl rfl (by simp [Value.oneCell']) (hH4.get 0 rfl) (Nat.zero_le _) (by omega) (by decide) fun v5 w5 ho5 hg5 hst5 => ?_
      rw [← hmc] at ho5
      obtain ⟨⟨r1, r2⟩, st6⟩ := hH4.growField 1 0 rfl rfl (by decide) ho5 hg5 hst5 0 (by show 0 < 4; omega)
      obtain ⟨A5, c5, rfl, _⟩ := id ho5
      have hw6 : b7 < w5.heap.size := by simpa using (st6.hp.get 1 rfl : Box _ b7 _).1
      simp -dsimp (maxSteps := 2000000) only [VC.heldF_done, VC.heldF_last, VC.planF_done, VC.planF_take, VC.planF_one, VC.planF_two, VC.planK_eq, VC.heldF_take, VC.heldF_one, VC.heldF_two, VC.heldF_twoL, VC.heldK_eq, VC.okRd, Fa.F30, hw6, hw4, hwl, VC.Now, VC.vc, VC.lib, VC.mapN_drewN, VC.mapB_drewN, VC.regQ, VC.loopK, VC.reg, VC.opP, VC.opS, VC.opZ, VC.nomulB, VC.pv, VC.thenF, VC.blkF, VC.retF, VC.resV, VC.oneV, VC.evo, VC.bin, VC.binI, VC.cmpI, VC.arithI, VC.ldv, VC.slv, VC.pickP, VC.holds, VC.chainOf, VC.look, VC.junk, VC.put, VC.eff, VC.callee, VC.pureB, VC.rdK, VC.rdKs, VC.okKs, VC.eqKs, VC.fillL, VC.putL, VC.stW, VC.stOK, VC.mixF, VC.setAll, Nat.reduceAdd, Nat.reduceSub, Nat.reduceMul, if_true, if_false, ↓reduceIte, forall_const, implies_true, reduceCtorEq, ne_eq, Nat.reduceBNe, Nat.reduceBEq, IntKind.signed, Nat.reduceEqDiff, Nat.reduceLeDiff, Nat.reduceLT, eq_self, Int.reduceEq, Int.reduceLT, Int.reduceLE, Int.reduceAdd, Int.reduceSub, VC.regC_nil, VC.regC_cons, VC.regCK_eq, VC.callQ, VC.tailQ, VC.goCall, VC.chStep]
      have ag6 := ag4.trans (Agree.grown hg5 fun j hj => Or.inr hj)
      have hBw : Below rb w (w5.setCell ⟨b7, 0, none⟩ (.slice A5 (t + 1) c5)) := hBy.trans ((below_drewN (Below.refl rb wy) 1).trans ((st5.trans st6).below (hHd.perm List.perm_append_comm)))
      refine ⟨ag6, ⟨r1, r2⟩, fits_i64_nat (by omega), SAME.intro (by kernel_rfl), m - 1, by omega, t + 1, q', .slice A5 (t + 1) c5, by omega, rfl, by have := hkc'; omega, hq', hBw, ?_⟩
      rw [hms]
      exact st6.hp
    · obtain rfl : t = len := by omega
      have e8 : ((t : Int) < t) = False := eq_false (by omega)
      unfold MxQ
      have hqb := mst_mb hn g t (by omega)
      have hcl : ((List.range t).map (mcode k g)).length = t := by simp
      have hce : mcodes k g t = ((List.range t).map (mcode k g)).map (Value.int .i64) := by unfold mcodes; rw [List.map_map]; rfl
      rw [hce] at hH
      generalize (List.range t).map (mcode k g) = codes at *
      generalize mst k g t = s at *
      have bx : Box wx wb [.slice (some ⟨gp, 0, none⟩) k gc, .map (some mb), q.inV] := hH.get 3 rfl
      have x2 := bx.at (i := 2) rfl
      have hwl := bx.1
      obtain ⟨Ai, ci, ei, _⟩ := id (hH.get 6 rfl : OwnK wx 0 3 1 s.inn.length q.inV _)
      rw [ei] at x2
      have bo : Box wx b7 _ := hH.get 1 rfl
      have f1 := bo.soft (i := 1) (by show 1 < 4; omega)
      have k1 : (wx.cell? ⟨b7, 1, none⟩).isSome = true := by rw [bo.at (i := 1) rfl]; rfl
      have hol := bo.1
      have st1 := hH.setBox 1 rfl 1 (.slice Ai s.inn.length ci)
      have hH1 := st1.hp
      have hB1 := hBx.trans (st1.below hH)
      obtain ⟨wy, hwy⟩ : ∃ wy, wy = wx.setCell ⟨b7, 1, none⟩ (.slice Ai s.inn.length ci) := ⟨_, rfl⟩
      rw [← hwy] at hH1 hB1
      have bw : Box wy wb [.slice (some ⟨gp, 0, none⟩) k gc, .map (some mb), q.inV] := hH1.get 3 rfl
      have y0 := bw.at (i := 0) rfl
      have hwl1 := bw.1
      simp -dsimp (maxSteps := 2000000) only [Fa.F30, e8, rdSA_of x2, rdSN_of x2, rdSC_of x2, x2, hwl, hol, f1, k1, stOK_one, stW_one, ← hwy, rdSA_of y0, rdSN_of y0, rdSC_of y0, y0, hwl1, VC.Now, VC.vc, VC.lib, VC.mapN_drewN, VC.mapB_drewN, VC.regQ, VC.loopK, VC.reg, VC.opP, VC.opS, VC.opZ, VC.nomulB, VC.pv, VC.thenF, VC.blkF, VC.retF, VC.resV, VC.oneV, VC.evo, VC.bin, VC.binI, VC.cmpI, VC.arithI, VC.ldv, VC.slv, VC.pickP, VC.holds, VC.chainOf, VC.look, VC.junk, VC.put, VC.eff, VC.callee, VC.pureB, VC.rdK, VC.rdKs, VC.okKs, VC.eqKs, VC.fillL, VC.putL, VC.mixF, VC.setAll, Nat.reduceAdd, Nat.reduceSub, Nat.reduceMul, if_true, if_false, ↓reduceIte, forall_const, implies_true, reduceCtorEq, ne_eq, Nat.reduceBNe, Nat.reduceBEq, IntKind.signed, Nat.reduceEqDiff, Nat.reduceLeDiff, Nat.reduceLT, eq_self, Int.reduceEq, Int.reduceLT, Int.reduceLE, Int.reduceAdd, Int.reduceSub, VC.regC_nil, VC.regC_cons, VC.regCK_eq, VC.callQ, VC.tailQ, VC.goCall, VC.chStep]
      have hHl := (hH1.st_add (o := oOwn 3 1 0 nilS []) (Below.refl _ _) (OwnK.nil _ _ _ _) (fun g hg => by cases hg)).hp
      refine loop_slots Fa.mix [69] [10, 11, 70, 71, 72, 73, 74, 75, 76, 77, 78, 79, 80, 81, 82, 83, 84, 85] (fun m vs wx => ∃ (j : Nat) (vi : Value), j + m = k ∧ vs = [.int .i64 j] ∧ Below rb w wx ∧
        Hp rb ([oOwn 3 1 (insideL s j).length vi (natL (insideL s j)), oOwn 24 1 t vc (codes.map (Value.int .i64)), oBox b7 [vc, q.inV, vi, .int .i64 0], oBox rb [nilS, nilS, nilS, .int .i64 0]] ++ XObs k ⟨wb, gp, gc, mb, pbs⟩ s q) wx) k (by kernel_rfl) rfl
        ⟨0, nilS, by omega, rfl, hB1, by rw [ei]; exact hHl⟩ ?_
      clear hHl hH1 hB1 hH hBx bx x2 hwl bo f1 k1 hol st1 hwy bw y0 hwl1
      rintro m2 vs u4 wx2 ⟨j, vi, hjm, rfl, hBx, hH⟩
      have hHx : Hp rb (XObs k ⟨wb, gp, gc, mb, pbs⟩ s q) wx2 := (hH.perm List.perm_append_comm).left
      by_cases hj : j < k
      · have e9 : ((j : Int) < k) = True := eq_true (by omega)
        obtain ⟨Av, cv, rfl, _⟩ := id (hH.get 0 rfl : OwnK wx2 0 3 1 _ vi _)
        have t0 := ptrF hHx hj
        have bp := procF hHx hj
        have t1 := bp.at (i := 1) rfl
        have hpl := bp.1
        have hgl := (hHx.get 1 rfl : Box wx2 gp _).1
        have bo : Box wx2 b7 [vc, q.inV, .slice Av (insideL s j).length cv, .int .i64 0] := hH.get 2 rfl
        have y2 := bo.at (i := 2) rfl
        have hol := bo.1
        have hlen2 := insideL_len s j
        have hins := insideL_succ s j
        by_cases q2 : (s.pr j).how = 2
        · have e10 := eq_true q2
          simp -dsimp (maxSteps := 2000000) only [Fa.F30, e9, e10, rdP_of t0, t0, rdI_of t1, t1, hpl, hgl, rdSA_of y2, rdSN_of y2, rdSC_of y2, y2, hol, Int.toNat_natCast, VC.Now, VC.vc, VC.lib, VC.mapN_drewN, VC.mapB_drewN, VC.regQ, VC.loopK, VC.reg, VC.opP, VC.opS, VC.opZ, VC.nomulB, VC.pv, VC.thenF, VC.blkF, VC.retF, VC.resV, VC.oneV, VC.evo, VC.bin, VC.binI, VC.cmpI, VC.arithI, VC.ldv, VC.slv, VC.pickP, VC.holds, VC.chainOf, VC.look, VC.junk, VC.put, VC.eff, VC.callee, VC.pureB, VC.rdK, VC.rdKs, VC.okKs, VC.eqKs, VC.fillL, VC.putL, VC.stW, VC.stOK, VC.mixF, VC.setAll, Nat.reduceAdd, Nat.reduceSub, Nat.reduceMul, if_true, if_false, ↓reduceIte, forall_const, implies_true, reduceCtorEq, ne_eq, Nat.reduceBNe, Nat.reduceBEq, IntKind.signed, Nat.reduceEqDiff, Nat.reduceLeDiff, Nat.reduceLT, eq_self, Int.reduceEq, Int.reduceLT, Int.reduceLE, Int.reduceAdd, Int.reduceSub, VC.regC_nil, VC.regC_cons, VC.regCK_eq, VC.callQ, VC.tailQ, VC.goCall, VC.chStep]
          refine ⟨by omega, ?_⟩
          refine OPW_appK (us := [iV j]) rfl Fa.apI23 rfl rfl rfl (by simp [Value.oneCell']) (hH.get 0 rfl) (Nat.zero_le _) (by omega) (by decide) fun v5 w5 ho5 hg5 hst5 => ?_
          have hnl : natL (insideL s j) ++ [iV j] = natL (insideL s (j + 1)) := by rw [hins, if_pos q2]; exact (List.map_append (f := fun (i : Nat) => iV i) (l₁ := insideL s j) (l₂ := [j])).symm
          have hnn : (insideL s j).length + 1 = (insideL s (j + 1)).length := by rw [hins, if_pos q2, List.length_append]; rfl
          rw [hnl] at ho5
          obtain ⟨⟨r1, r2⟩, st6⟩ := hH.growField 2 0 rfl rfl (by decide) ho5 hg5 hst5 2 (by show 2 < 4; omega)
          obtain ⟨A5, c5, rfl, _⟩ := id ho5
          have hwl5 : b7 < w5.heap.size := by simpa using (st6.hp.get 2 rfl : Box _ b7 _).1
          rw [VC.Now, VC.seqK_eq]
          simp -dsimp (maxSteps := 2000000) only [Fa.F30, hwl5, VC.Now, VC.vc, VC.lib, VC.mapN_drewN, VC.mapB_drewN, VC.regQ, VC.loopK, VC.reg, VC.opP, VC.opS, VC.opZ, VC.nomulB, VC.pv, VC.thenF, VC.blkF, VC.retF, VC.resV, VC.oneV, VC.evo, VC.bin, VC.binI, VC.cmpI, VC.arithI, VC.ldv, VC.slv, VC.pickP, VC.holds, VC.chainOf, VC.look, VC.junk, VC.put, VC.eff, VC.callee, VC.pureB, VC.rdK, VC.rdKs, VC.okKs, VC.eqKs, VC.fillL, VC.putL, VC.stW, VC.stOK, VC.mixF, VC.setAll, Nat.reduceAdd, Nat.reduceSub, Nat.reduceMul, if_true, if_false, ↓reduceIte, forall_const, implies_true, reduceCtorEq, ne_eq, Nat.reduceBNe, Nat.reduceBEq, IntKind.signed, Nat.reduceEqDiff, Nat.reduceLeDiff, Nat.reduceLT, eq_self, Int.reduceEq, Int.reduceLT, Int.reduceLE, Int.reduceAdd, Int.reduceSub, VC.regC_nil, VC.regC_cons, VC.regCK_eq, VC.callQ, VC.tailQ, VC.goCall, VC.chStep]
          refine ⟨⟨r1, r2⟩, fits_i64_nat (by omega), SAME.intro (by kernel_rfl), m2 - 1, by omega, j + 1, .slice A5 ((insideL s j).length + 1) c5, by omega, rfl, hBx.trans (st6.below hH), ?_⟩
          rw [← hnn]
          exact st6.hp
        · have e10 := eq_false q2
          simp -dsimp (maxSteps := 2000000) only [Fa.F30, e9, e10, rdP_of t0, t0, rdI_of t1, t1, hpl, hgl, rdSA_of y2, rdSN_of y2, rdSC_of y2, y2, hol, Int.toNat_natCast, VC.Now, VC.vc, VC.lib, VC.mapN_drewN, VC.mapB_drewN, VC.regQ, VC.loopK, VC.reg, VC.opP, VC.opS, VC.opZ, VC.nomulB, VC.pv, VC.thenF, VC.blkF, VC.retF, VC.resV, VC.oneV, VC.evo, VC.bin, VC.binI, VC.cmpI, VC.arithI, VC.ldv, VC.slv, VC.pickP, VC.holds, VC.chainOf, VC.look, VC.junk, VC.put, VC.eff, VC.callee, VC.pureB, VC.rdK, VC.rdKs, VC.okKs, VC.eqKs, VC.fillL, VC.putL, VC.stW, VC.stOK, VC.mixF, VC.setAll, Nat.reduceAdd, Nat.reduceSub, Nat.reduceMul, if_true, if_false, ↓reduceIte, forall_const, implies_true, reduceCtorEq, ne_eq, Nat.reduceBNe, Nat.reduceBEq, IntKind.signed, Nat.reduceEqDiff, Nat.reduceLeDiff, Nat.reduceLT, eq_self, Int.reduceEq, Int.reduceLT, Int.reduceLE, Int.reduceAdd, Int.reduceSub, VC.regC_nil, VC.regC_cons, VC.regCK_eq, VC.callQ, VC.tailQ, VC.goCall, VC.chStep]
          refine ⟨by omega, fits_i64_nat (by omega), SAME.intro (by kernel_rfl), m2 - 1, by omega, j + 1, .slice Av (insideL s j).length cv, by omega, rfl, hBx, ?_⟩
          rw [hins, if_neg q2]
          exact hH
      · obtain rfl : j = k := by omega
        have e9 : ((j : Int) < j) = False := eq_false (by omega)
        have bx : Box wx2 wb [.slice (some ⟨gp, 0, none⟩) j gc, .map (some mb), q.inV] := hHx.get 0 rfl
        have x1 := bx.at (i := 1) rfl
        have hwl := bx.1
        simp -dsimp (maxSteps := 2000000) only [Fa.F30, e9, rdM_of x1, x1, hwl, VC.Now, VC.vc, VC.lib, VC.mapN_drewN, VC.mapB_drewN, VC.regQ, VC.loopK, VC.reg, VC.opP, VC.opS, VC.opZ, VC.nomulB, VC.pv, VC.thenF, VC.blkF, VC.retF, VC.resV, VC.oneV, VC.evo, VC.bin, VC.binI, VC.cmpI, VC.arithI, VC.ldv, VC.slv, VC.pickP, VC.holds, VC.chainOf, VC.look, VC.junk, VC.put, VC.eff, VC.callee, VC.pureB, VC.rdK, VC.rdKs, VC.okKs, VC.eqKs, VC.fillL, VC.putL, VC.mixF, VC.setAll, Nat.reduceAdd, Nat.reduceSub, Nat.reduceMul, if_true, if_false, ↓reduceIte, forall_const, implies_true, reduceCtorEq, ne_eq, Nat.reduceBNe, Nat.reduceBEq, IntKind.signed, Nat.reduceEqDiff, Nat.reduceLeDiff, Nat.reduceLT, eq_self, Int.reduceEq, Int.reduceLT, Int.reduceLE, Int.reduceAdd, Int.reduceSub, VC.regC_nil, VC.regC_cons, VC.regCK_eq, VC.callQ, VC.tailQ, VC.goCall, VC.chStep]
        have hM : MapV Try.prog EW wx2 mb q.cnt q.M := hHx.get 2 rfl
        have hHw := hHx
        rw [XObs_way] at hHw
        have hlf := leftS_allX (s := s) (w := wx2) hq fun i1 i2 h1 h2 => by
          have := hHw.fget (idx_lt h1 h2)
          rw [(idx_div h2).1, (idx_div h2).2] at this
          exact this
        have hqv : ∀ i1 i2, i1 < j → i2 < j → ∃ A c, q.qv (i1 * j + i2) = .slice A (mlen s i1 i2) c := fun i1 i2 h1 h2 => by
          have := hHw.fget (idx_lt h1 h2)
          rw [(idx_div h2).1, (idx_div h2).2] at this
          obtain ⟨A, c, h3⟩ := (this : OwnQ wx2 3 _ _).form
          rw [List.length_map] at h3
          exact ⟨A, c, h3⟩
        have haw : maway j s = sum2 j fun a b => (mlen s a b : Int) := rfl
        have hwb := fun a b => hqb.way a b
        have hsb := sum2_bound (n := j) (T := 125 * t) (f := fun a b => (mlen s a b : Int)) hn fun a b => ⟨by omega, by have := hwb a b; unfold mlen; omega⟩
        generalize hS1 : (sum2 j fun a b => (mlen s a b : Int)) = S1 at *
        refine OPW_rangeV hM rfl (by kernel_rfl) rfl fun w1 hR hB1 hs1 => ?_
        rw [VC.Now, VC.seqK_eq]
        simp -dsimp (maxSteps := 2000000) only [Fa.F30, VC.Now, VC.vc, VC.lib, VC.mapN_drewN, VC.mapB_drewN, VC.regQ, VC.loopK, VC.reg, VC.opP, VC.opS, VC.opZ, VC.nomulB, VC.pv, VC.thenF, VC.blkF, VC.retF, VC.resV, VC.oneV, VC.evo, VC.bin, VC.binI, VC.cmpI, VC.arithI, VC.ldv, VC.slv, VC.pickP, VC.holds, VC.chainOf, VC.look, VC.junk, VC.put, VC.eff, VC.callee, VC.pureB, VC.rdK, VC.rdKs, VC.okKs, VC.eqKs, VC.fillL, VC.putL, VC.stW, VC.stOK, VC.mixF, VC.setAll, Nat.reduceAdd, Nat.reduceSub, Nat.reduceMul, if_true, if_false, ↓reduceIte, forall_const, implies_true, reduceCtorEq, ne_eq, Nat.reduceBNe, Nat.reduceBEq, IntKind.signed, Nat.reduceEqDiff, Nat.reduceLeDiff, Nat.reduceLT, eq_self, Int.reduceEq, Int.reduceLT, Int.reduceLE, Int.reduceAdd, Int.reduceSub, VC.regC_nil, VC.regC_cons, VC.regCK_eq, VC.callQ, VC.tailQ, VC.goCall, VC.chStep]
        have hfr : ∀ g : Nat, foot ([oOwn 3 1 (insideL s j).length vi (natL (insideL s j)), oOwn 24 1 t vc (codes.map (Value.int .i64)), oBox b7 [vc, q.inV, vi, .int .i64 (0)], oBox rb [nilS, nilS, nilS, .int .i64 0]] ++ XObs j ⟨wb, gp, gc, mb, pbs⟩ s q) g → g < wx2.heap.size := fun g hg => (hH.foot_lt hg).2
        have hH1 := hH.below hB1
        have hBy := hBx.trans (hB1.mono hH.base)
        have n7 : b7 ≠ mb := fun e => hH.ne 2 6 (by decide) rfl rfl _ rfl (by rw [e]; rfl)
        have l7 : b7 < wx2.heap.size := (hH.get 2 rfl : Box wx2 b7 _).1
        have hrr := hH.base
        generalize hrq : wx2.heap.size = rr at hR hfr l7 hrr ⊢
        refine loop_slots Fa.mix [] [13, 91, 92, 93, 94, 95, 96, 97, 98, 99, 100] (fun m vs wr => ∃ left : Int × Int → Prop, vs = [] ∧ RangeV Try.prog EW wr mb rr q.cnt q.M left m ∧ Below rb w wr ∧
          Hp rb ([oOwn 3 1 (insideL s j).length vi (natL (insideL s j)), oOwn 24 1 t vc (codes.map (Value.int .i64)), oBox b7 [vc, q.inV, vi, .int .i64 (S1 - leftS j (mlen s) left)], oBox rb [nilS, nilS, nilS, .int .i64 0]] ++ XObs j ⟨wb, gp, gc, mb, pbs⟩ s q) wr) q.cnt (by kernel_rfl) rfl
          ⟨_, rfl, hR, hBy, by rw [hlf, show S1 - S1 = 0 by omega]; exact hH1⟩ ?_
        clear hH hHx hHw hH1 hBy hBx hB1 hR hM
        rintro m5 vs u5 wr ⟨left, rfl, hRg, hBx, hH⟩
        simp -dsimp (maxSteps := 2000000) only [Fa.F30, VC.Now, VC.vc, VC.lib, VC.mapN_drewN, VC.mapB_drewN, VC.regQ, VC.loopK, VC.reg, VC.opP, VC.opS, VC.opZ, VC.nomulB, VC.pv, VC.thenF, VC.blkF, VC.retF, VC.resV, VC.oneV, VC.evo, VC.bin, VC.binI, VC.cmpI, VC.arithI, VC.ldv, VC.slv, VC.pickP, VC.holds, VC.chainOf, VC.look, VC.junk, VC.put, VC.eff, VC.callee, VC.pureB, VC.rdK, VC.rdKs, VC.okKs, VC.eqKs, VC.fillL, VC.putL, VC.stW, VC.stOK, VC.mixF, VC.setAll, Nat.reduceAdd, Nat.reduceSub, Nat.reduceMul, if_true, if_false, ↓reduceIte, forall_const, implies_true, reduceCtorEq, ne_eq, Nat.reduceBNe, Nat.reduceBEq, IntKind.signed, Nat.reduceEqDiff, Nat.reduceLeDiff, Nat.reduceLT, eq_self, Int.reduceEq, Int.reduceLT, Int.reduceLE, Int.reduceAdd, Int.reduceSub, VC.regC_nil, VC.regC_cons, VC.regCK_eq, VC.callQ, VC.tailQ, VC.goCall, VC.chStep]
        refine OPW_nextV hRg rfl rfl (fun h0 hno => ?_) (fun x v w2 cnt' hx hlx hmx hRg2 hlt hA2 hs2 hE => ?_)
        · have hl0 : leftS j (mlen s) left = 0 := leftS_none fun a b ha hb => hno _ (EW_ok (by omega) (by omega))
          rw [hl0, Int.sub_zero] at hH
          have lc : (codes.map (Value.int .i64)).length = t := by rw [List.length_map]; exact hcl
          have bo : Box wr b7 [vc, q.inV, vi, .int .i64 S1] := hH.get 2 rfl
          obtain ⟨Ac, cc, rfl, _⟩ := id (hH.get 1 rfl : OwnK wr 0 24 1 t vc _)
          obtain ⟨Av, cv, rfl, _⟩ := id (hH.get 0 rfl : OwnK wr 0 3 1 (insideL s j).length vi _)
          obtain ⟨Ai, ci, ei, _⟩ := id (hH.get 7 rfl : OwnK wr 0 3 1 s.inn.length q.inV _)
          rw [ei] at bo
          have b0 := bo.at (i := 0) rfl
          have b1 := bo.at (i := 1) rfl
          have b2 := bo.at (i := 2) rfl
          have b3 := bo.at (i := 3) rfl
          have hol := bo.1
          obtain ⟨ok, st2⟩ := hH.allBox 3 rfl (vs := [.slice Ac t cc, .slice Ai s.inn.length ci, .slice Av (insideL s j).length cv, .int .i64 S1]) rfl (by intro v hv; simp at hv; rcases hv with rfl | rfl | rfl | rfl <;> rfl)
          have rb5 : Box _ rb [.slice Ac t cc, .slice Ai s.inn.length ci, .slice Av (insideL s j).length cv, .int .i64 S1] := st2.hp.get 3 rfl
          have t0 := rb5.at (i := 0) rfl
          have t1 := rb5.at (i := 1) rfl
          have t2 := rb5.at (i := 2) rfl
          have t3 := rb5.at (i := 3) rfl
          simp -dsimp (maxSteps := 2000000) only [Fa.F30, hol, rdSA_of b0, rdSN_of b0, rdSC_of b0, b0, rdSA_of b1, rdSN_of b1, rdSC_of b1, b1, rdSA_of b2, rdSN_of b2, rdSC_of b2, b2, rdI_of b3, b3, rdSA_of t0, rdSN_of t0, rdSC_of t0, t0, rdSA_of t1, rdSN_of t1, rdSC_of t1, t1, rdSA_of t2, rdSN_of t2, rdSC_of t2, t2, rdI_of t3, t3, VC.Now, VC.vc, VC.lib, VC.mapN_drewN, VC.mapB_drewN, VC.regQ, VC.loopK, VC.reg, VC.opP, VC.opS, VC.opZ, VC.nomulB, VC.pv, VC.thenF, VC.blkF, VC.retF, VC.resV, VC.oneV, VC.evo, VC.bin, VC.binI, VC.cmpI, VC.arithI, VC.ldv, VC.slv, VC.pickP, VC.holds, VC.chainOf, VC.look, VC.junk, VC.put, VC.eff, VC.callee, VC.pureB, VC.rdK, VC.rdKs, VC.okKs, VC.eqKs, VC.fillL, VC.putL, VC.mixF, VC.setAll, Nat.reduceAdd, Nat.reduceSub, Nat.reduceMul, if_true, if_false, ↓reduceIte, forall_const, implies_true, reduceCtorEq, ne_eq, Nat.reduceBNe, Nat.reduceBEq, IntKind.signed, Nat.reduceEqDiff, Nat.reduceLeDiff, Nat.reduceLT, eq_self, Int.reduceEq, Int.reduceLT, Int.reduceLE, Int.reduceAdd, Int.reduceSub, VC.regC_nil, VC.regC_cons, VC.regCK_eq, VC.callQ, VC.tailQ, VC.goCall, VC.chStep]
          have q0 := (st2.hp.get 1 rfl : OwnK _ 0 24 1 t _ _)
          have q1 := (st2.hp.get 7 rfl : OwnK _ 0 3 1 s.inn.length q.inV _)
          have q2 := (st2.hp.get 0 rfl : OwnK _ 0 3 1 (insideL s j).length _ _)
          rw [ei] at q1
          refine ⟨ok, _, rfl, ⟨Ac, cc, Ai, ci, Av, cv, by rw [haw], hcl, q0.rd.2, q1.rd.2, q2.rd.2⟩, by rw [hrb]; exact hBx.trans (st2.below hH)⟩
        · obtain ⟨a, b, ha, hb, rfl⟩ := hq.key x (by rw [hmx]; rfl)
          have hvv := hq.val a b ha hb
          rw [hmx] at hvv
          have hvv : v = q.qv (a * j + b) := hvv
          obtain ⟨A6, c6, hq6⟩ := hqv a b ha hb
          rw [hq6] at hvv
          subst hvv
          have hE' : EntryV Try.prog w2 rr (.agg #[.int .i64 a, .int .i64 b]) (.slice A6 (mlen s a b) c6) := hE
          have htk := leftS_take (f := mlen s) (left := left) ha hb hlx
          have hbd := leftS_bound (f := mlen s) (left := left) hn hwb
          have hbd2 := leftS_bound (f := mlen s) (left := fun y => left y ∧ y ≠ ((a : Int), (b : Int))) hn hwb
          have hH2 := hH.agree hA2 (fun g hg e => by have := hfr g (foot_congr (L := ([oOwn 3 1 (insideL s j).length vi (natL (insideL s j)), oOwn 24 1 t vc (codes.map (Value.int .i64)), oBox b7 [vc, q.inV, vi, .int .i64 (S1 - leftS j (mlen s) left)], oBox rb [nilS, nilS, nilS, .int .i64 0]] ++ XObs j ⟨wb, gp, gc, mb, pbs⟩ s q)) rfl hg); omega)
          have hB2 := hA2.to_below hBx hH.base fun i hi => by omega
          simp -dsimp (maxSteps := 2000000) only [Fa.F30, VC.Now, VC.vc, VC.lib, VC.mapN_drewN, VC.mapB_drewN, VC.regQ, VC.loopK, VC.reg, VC.opP, VC.opS, VC.opZ, VC.nomulB, VC.pv, VC.thenF, VC.blkF, VC.retF, VC.resV, VC.oneV, VC.evo, VC.bin, VC.binI, VC.cmpI, VC.arithI, VC.ldv, VC.slv, VC.pickP, VC.holds, VC.chainOf, VC.look, VC.junk, VC.put, VC.eff, VC.callee, VC.pureB, VC.rdK, VC.rdKs, VC.okKs, VC.eqKs, VC.fillL, VC.putL, VC.stW, VC.stOK, VC.mixF, VC.setAll, Nat.reduceAdd, Nat.reduceSub, Nat.reduceMul, if_true, if_false, ↓reduceIte, forall_const, implies_true, reduceCtorEq, ne_eq, Nat.reduceBNe, Nat.reduceBEq, IntKind.signed, Nat.reduceEqDiff, Nat.reduceLeDiff, Nat.reduceLT, eq_self, Int.reduceEq, Int.reduceLT, Int.reduceLE, Int.reduceAdd, Int.reduceSub, VC.regC_nil, VC.regC_cons, VC.regCK_eq, VC.callQ, VC.tailQ, VC.goCall, VC.chStep]
          refine OPW_entryV hE' rfl rfl ?_
          have bx7 : Box w2 b7 _ := hH2.get 2 rfl
          have y3 := bx7.at (i := 3) rfl
          have f3 := bx7.soft (i := 3) (by show 3 < 4; omega)
          have k3 : (w2.cell? ⟨b7, 3, none⟩).isSome = true := by rw [y3]; rfl
          have hwl := bx7.1
          rw [VC.Now, VC.seqK_eq]
          simp -dsimp (maxSteps := 2000000) only [Fa.F30, rdI_of y3, y3, hwl, f3, k3, VC.Now, VC.vc, VC.lib, VC.mapN_drewN, VC.mapB_drewN, VC.regQ, VC.loopK, VC.reg, VC.opP, VC.opS, VC.opZ, VC.nomulB, VC.pv, VC.thenF, VC.blkF, VC.retF, VC.resV, VC.oneV, VC.evo, VC.bin, VC.binI, VC.cmpI, VC.arithI, VC.ldv, VC.slv, VC.pickP, VC.holds, VC.chainOf, VC.look, VC.junk, VC.put, VC.eff, VC.callee, VC.pureB, VC.rdK, VC.rdKs, VC.okKs, VC.eqKs, VC.fillL, VC.putL, VC.stW, VC.stOK, VC.mixF, VC.setAll, Nat.reduceAdd, Nat.reduceSub, Nat.reduceMul, if_true, if_false, ↓reduceIte, forall_const, implies_true, reduceCtorEq, ne_eq, Nat.reduceBNe, Nat.reduceBEq, IntKind.signed, Nat.reduceEqDiff, Nat.reduceLeDiff, Nat.reduceLT, eq_self, Int.reduceEq, Int.reduceLT, Int.reduceLE, Int.reduceAdd, Int.reduceSub, VC.regC_nil, VC.regC_cons, VC.regCK_eq, VC.callQ, VC.tailQ, VC.goCall, VC.chStep]
          have hst := hH2.setBox 2 rfl 3 (.int .i64 (S1 - leftS j (mlen s) left + mlen s a b))
          have he : S1 - leftS j (mlen s) left + mlen s a b = S1 - leftS j (mlen s) fun y => left y ∧ y ≠ ((a : Int), (b : Int)) := by omega
          refine ⟨fits_i64 (by omega) (by omega), SAME.intro (by kernel_rfl), cnt', hlt, fun y => left y ∧ y ≠ ((a : Int), (b : Int)), ?_, ?_, ?_⟩
          · exact hRg2.agree (Agree.setCell (X := (· = b7)) w2 (a := ⟨b7, 3, none⟩) _ rfl) (fun hh => n7 hh.symm) (by omega)
          · exact hB2.trans (hst.below hH2)
          · rw [he] at hst ⊢
            exact hst.hp
end
end Go.Proofs.Ytelfmhiaafkimaa
