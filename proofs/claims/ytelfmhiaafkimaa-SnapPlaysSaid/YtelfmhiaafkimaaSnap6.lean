/- A picture of what moves: the program's script. -/
import Derived.Test.YtelfmhiaafkimaaSnap5
import Derived.Test.YtelfmhiaafkimaaRefLists
import Derived.Test.YtelfmhiaafkimaaIdxFuncI
namespace Go.Proofs.Ytelfmhiaafkimaa
open Go Go.RowKit Go.VC
set_option linter.unusedSimpArgs false
set_option linter.unusedVariables false
theorem hp_join {B B2 : Nat} {L M : List Ob} {w : World} (h1 : Hp B L w) (h2 : Hp B2 M w) (hB : B ≤ B2) (hlt : ∀ q, foot L q → q < B2) : Hp B (M ++ L) w := by
  refine ⟨fun o ho => (List.mem_append.1 ho).elim (fun h => ⟨(h2.1 o h).1, fun q hq => Nat.le_trans hB ((h2.1 o h).2 q hq)⟩) (h1.1 o), List.pairwise_append.2 ⟨h2.2, h1.2, fun a ha b hb q h3 h4 => ?_⟩, h1.base⟩
  have h5 := (h2.1 a ha).2 q h3
  have h6 := hlt q ⟨b, hb, h4⟩
  omega
theorem hp_right {B : Nat} {L M : List Ob} {w : World} (h : Hp B (M ++ L) w) : Hp B L w := h.sub (List.sublist_append_right _ _)
theorem rd_of_tab {w : World} {A : Option Addr} {n : Nat} {m : Nat → Int} (h : RdT w A n 1 (fun i => [.int .i64 (m i)])) : Rd w A (((List.range n).map m).map (Value.int .i64)) := fun h0 => by
  obtain ⟨b, o, e, hb, hc⟩ := h (by simpa using h0)
  refine ⟨b, o, e, hb, fun j hj => ?_⟩
  have hj : j < n := by simpa using hj
  have := hc j hj 0 _ rfl
  simp only [Nat.mul_one, Nat.add_zero] at this
  rw [this]
  simp [hj]
noncomputable abbrev ncodes (n : Nat) (m : Nat → Int) (g : Nat → PassC) (k : Nat) : List Value := (List.range k).map fun i => Value.int .i64 (ncode n m g i)
theorem ncodes_succ (n : Nat) (m : Nat → Int) (g : Nat → PassC) (k : Nat) : ncodes n m g (k + 1) = ncodes n m g k ++ [.int .i64 (nstep n (g k) (nst n m g k)).1] := by
  unfold ncodes; rw [List.range_succ, List.map_append]; rfl
def btwS (n : Nat) (s : SnS) : List (List Int) := (List.range (n * n)).map fun t => notedL (s.own (t % n)) (s.ln (t / n) (t % n))
open Classical in
/-- Is the picture whole? -/
noncomputable def doneS (n : Nat) (s : SnS) : Bool := decide ((∀ b, b < n → 0 ≤ s.own b) ∧ ∀ a b, a < n → b < n → a ≠ b → closB (s.ln a b) = true)
def SnapQ (n k : Nat) (codes : List Int) (s : SnS) (v : Value) (w : World) : Prop :=
  ∃ A0 c0 A1 c1 A2 c2 A3 c3, v = .agg #[.slice A0 k c0, .slice A1 n c1, .slice A2 n c2, .slice A3 (n * n) c3, .bool (doneS n s)] ∧ codes.length = k ∧ Rd w A0 (codes.map (Value.int .i64)) ∧ Rd w A1 (((List.range n).map s.money).map (Value.int .i64)) ∧ Rd w A2 (((List.range n).map s.own).map (Value.int .i64)) ∧ RdLL w A3 (btwS n s)
theorem SnapQ.below {n k : Nat} {codes : List Int} {s : SnS} {v : Value} {w w' : World} (h : SnapQ n k codes s v w) (hB : Below w.heap.size w w') : SnapQ n k codes s v w' := by
  obtain ⟨A0, c0, A1, c1, A2, c2, A3, c3, h0, h1, h2, h3, h4, h5⟩ := h
  exact ⟨A0, c0, A1, c1, A2, c2, A3, c3, h0, h1, h2.below hB, h3.below hB, h4.below hB, h5.below hB⟩
theorem far_any (x : Int) (w : World) : Calls Try.prog 55 #[.int .i64 x] w fun e w' => e = .returned (.bool (decide (x < 0 ∨ 1000 < x))) ∧ w' = w := by
  by_cases q1 : x < 0
  · have e1 := eq_true q1
    refine calls_vc (rs := [.tmp 2]) Fa.mix Try.func55 rfl Try.ntmps55 rfl (by kernel_rfl) (Nat.le_of_ble_eq_true rfl) ?_
    simp -dsimp (maxSteps := 2000000) only [Fa.F55, e1, undef, tu, uf, ul, ur, VC.Now, VC.vc, VC.lib, VC.mapN_drewN, VC.mapB_drewN, VC.regQ, VC.loopK, VC.reg, VC.opP, VC.opS, VC.opZ, VC.nomulB, VC.pv, VC.thenF, VC.blkF, VC.retF, VC.resV, VC.oneV, VC.evo, VC.bin, VC.binI, VC.cmpI, VC.arithI, VC.ldv, VC.slv, VC.pickP, VC.holds, VC.chainOf, VC.look, VC.junk, VC.put, VC.eff, VC.callee, VC.pureB, VC.rdK, VC.rdKs, VC.okKs, VC.eqKs, VC.fillL, VC.putL, VC.stW, VC.stOK, VC.mixF, VC.setAll, Nat.reduceAdd, Nat.reduceSub, Nat.reduceMul, if_true, if_false, ↓reduceIte, forall_const, implies_true, reduceCtorEq, ne_eq, Nat.reduceBNe, Nat.reduceBEq, IntKind.signed, Nat.reduceEqDiff, Nat.reduceLeDiff, Nat.reduceLT, eq_self, Int.reduceEq, Int.reduceLT, Int.reduceLE, Int.reduceAdd, Int.reduceSub, VC.regC_nil, VC.regC_cons, VC.regCK_eq, VC.callQ, VC.tailQ, VC.goCall, VC.chStep]
  · have e1 := eq_false q1
    refine calls_vc (rs := [.tmp 2]) Fa.mix Try.func55 rfl Try.ntmps55 rfl (by kernel_rfl) (Nat.le_of_ble_eq_true rfl) ?_
    simp -dsimp (maxSteps := 2000000) only [Fa.F55, e1, undef, tu, uf, ul, ur, VC.Now, VC.vc, VC.lib, VC.mapN_drewN, VC.mapB_drewN, VC.regQ, VC.loopK, VC.reg, VC.opP, VC.opS, VC.opZ, VC.nomulB, VC.pv, VC.thenF, VC.blkF, VC.retF, VC.resV, VC.oneV, VC.evo, VC.bin, VC.binI, VC.cmpI, VC.arithI, VC.ldv, VC.slv, VC.pickP, VC.holds, VC.chainOf, VC.look, VC.junk, VC.put, VC.eff, VC.callee, VC.pureB, VC.rdK, VC.rdKs, VC.okKs, VC.eqKs, VC.fillL, VC.putL, VC.stW, VC.stOK, VC.mixF, VC.setAll, Nat.reduceAdd, Nat.reduceSub, Nat.reduceMul, if_true, if_false, ↓reduceIte, forall_const, implies_true, reduceCtorEq, ne_eq, Nat.reduceBNe, Nat.reduceBEq, IntKind.signed, Nat.reduceEqDiff, Nat.reduceLeDiff, Nat.reduceLT, eq_self, Int.reduceEq, Int.reduceLT, Int.reduceLE, Int.reduceAdd, Int.reduceSub, VC.regC_nil, VC.regC_cons, VC.regCK_eq, VC.callQ, VC.tailQ, VC.goCall, VC.chStep]
abbrev z5 : List Value := [nilS, nilS, nilS, nilS, .bool false]
set_option maxRecDepth 8000 in
set_option maxHeartbeats 8000000 in
noncomputable def snapBut : { P : Prop // P → ∀ (A : Option Addr) (n c0 : Nat) (A2 : Option Addr) (len cap : Nat) (m : Nat → Int) (g : Nat → PassC) (w : World), RdT w A n 1 (fun i => [.int .i64 (m i)]) → (∀ i, 0 ≤ m i ∧ m i ≤ 1000) → RdT w A2 len 4 (fun i => passL (g i)) → (∀ i, fits .i64 (g i).n) → 1 ≤ n → n ≤ 6 → len ≤ 120 →
    Calls Try.prog 24 #[.slice A n c0, .slice A2 len cap] w fun e w' => ∃ v, e = .returned (.tuple #[v, .int .i64 0]) ∧ SnapQ n len ((List.range len).map (ncode n m g)) (nst n m g len) v w' ∧ Below w.heap.size w w' } := by
  refine ⟨?P3 ∧ True, fun HH => ?body⟩
  case body =>
  intro A n c0 A2 len cap m g w hv hm hr hgf h1 hn hlen
  have e1 : ((n : Int) = 0) = False := eq_false (by omega)
  have e2 : ((6 : Int) < n) = False := eq_false (by omega)
  have e3 : ((120 : Int) < len) = False := eq_false (by omega)
  have hB0 : Below w.heap.size w (w.alloc (.cells #[nilS, nilS, nilS, nilS, .bool false] 56)) := (Below.refl _ _).alloc (Nat.le_refl _) _
  have hH0 := (Hp.nil (B := w.heap.size) (Nat.le_refl _)).st_add (o := oBox w.heap.size z5) hB0 (Box.new w _ _) (fun g hg => by cases hg; exact Nat.le_refl _)
  replace hH0 := hH0.hp
  refine calls_vc (rs := [.cell 4 56, .tmp 5]) Fa.mix Try.func24 rfl Try.ntmps24 rfl (by kernel_rfl) (Nat.le_of_ble_eq_true rfl) ?_
  (repeat rw [vc_seq]); refine vc_plain _ fun Q hQ => ?_; simp -dsimp (maxSteps := 2000000) only [Fa.F24, e1, e2, e3, VC.Now, VC.vc_skip, VC.vc_ret, VC.vc_exit, VC.vc_block, VC.vc_cond, VC.vc_region, VC.lib, VC.mapN_drewN, VC.mapB_drewN, VC.regQ, VC.loopK, VC.reg, VC.opP, VC.opS, VC.opZ, VC.nomulB, VC.pv, VC.thenF, VC.blkF, VC.retF, VC.resV, VC.oneV, VC.evo, VC.bin, VC.binI, VC.cmpI, VC.arithI, VC.ldv, VC.slv, VC.pickP, VC.holds, VC.chainOf, VC.look, VC.junk, VC.put, VC.eff, VC.callee, VC.pureB, VC.rdK, VC.rdKs, VC.okKs, VC.eqKs, VC.fillL, VC.putL, VC.stW, VC.stOK, VC.mixF, VC.setAll, Nat.reduceAdd, Nat.reduceSub, Nat.reduceMul, if_true, if_false, ↓reduceIte, forall_const, implies_true, reduceCtorEq, ne_eq, Nat.reduceBNe, Nat.reduceBEq, IntKind.signed, Nat.reduceEqDiff, Nat.reduceLeDiff, Nat.reduceLT, eq_self, Int.reduceEq, Int.reduceLT, Int.reduceLE, Int.reduceAdd, Int.reduceSub, VC.regC_nil, VC.regC_cons, VC.regCK_eq, VC.callQ, VC.tailQ, VC.goCall, VC.chStep]
  change Q _ _ (w.alloc (.cells #[nilS, nilS, nilS, nilS, .bool false] 56))
  generalize w.alloc (.cells #[nilS, nilS, nilS, nilS, .bool false] 56) = wa at hH0 hB0 ⊢
  generalize hrb : w.heap.size = rb at hH0 hB0 ⊢
  subst hQ
  simp -dsimp (maxSteps := 2000000) only [Fa.F24, e1, e2, e3, undef, tu, uf, ul, ur, VC.Now, VC.vc, VC.lib, VC.mapN_drewN, VC.mapB_drewN, VC.regQ, VC.loopK, VC.reg, VC.opP, VC.opS, VC.opZ, VC.nomulB, VC.pv, VC.thenF, VC.blkF, VC.retF, VC.resV, VC.oneV, VC.evo, VC.bin, VC.binI, VC.cmpI, VC.arithI, VC.ldv, VC.slv, VC.pickP, VC.holds, VC.chainOf, VC.look, VC.junk, VC.put, VC.eff, VC.callee, VC.pureB, VC.rdK, VC.rdKs, VC.okKs, VC.eqKs, VC.fillL, VC.putL, VC.mixF, VC.setAll, Nat.reduceAdd, Nat.reduceSub, Nat.reduceMul, if_true, if_false, ↓reduceIte, forall_const, implies_true, reduceCtorEq, ne_eq, Nat.reduceBNe, Nat.reduceBEq, IntKind.signed, Nat.reduceEqDiff, Nat.reduceLeDiff, Nat.reduceLT, eq_self, Int.reduceEq, Int.reduceLT, Int.reduceLE, Int.reduceAdd, Int.reduceSub, VC.regC_nil, VC.regC_cons, VC.regCK_eq, VC.callQ, VC.tailQ, VC.goCall, VC.chStep]
  intro u
  have hBa : Below w.heap.size w wa := by rw [hrb]; exact hB0
  have hrd := rd_of_tab (hv.below hBa)
  have hln : ((List.range n).map m).length = n := by simp
  have hcf := containsFuncI_any A c0 ((List.range n).map m) (fun x => decide (x < 0 ∨ 1000 < x)) 55 [] wa hrd (by rw [hln]; omega) (by kernel_rfl) (fun x hx wr hB => (far_any x wr).mono fun e w' ⟨h1, h2⟩ => ⟨h1, h2 ▸ Below.refl _ _⟩)
  rw [hln] at hcf
  have hany : (((List.range n).map m).any fun x => decide (x < 0 ∨ 1000 < x)) = false := by
    rw [List.any_eq_false]
    intro x hx
    obtain ⟨i, _, rfl⟩ := List.mem_map.1 hx
    have := hm i
    rw [decide_eq_true_eq]; omega
  rw [hany] at hcf
  refine CALL_of hcf fun w1 hB1 => ?_
  rw [VC.Now, VC.seqK_eq]
  simp -dsimp (maxSteps := 2000000) only [Fa.F24, undef, tu, uf, ul, ur, VC.Now, VC.vc, VC.lib, VC.mapN_drewN, VC.mapB_drewN, VC.regQ, VC.loopK, VC.reg, VC.opP, VC.opS, VC.opZ, VC.nomulB, VC.pv, VC.thenF, VC.blkF, VC.retF, VC.resV, VC.oneV, VC.evo, VC.bin, VC.binI, VC.cmpI, VC.arithI, VC.ldv, VC.slv, VC.pickP, VC.holds, VC.chainOf, VC.look, VC.junk, VC.put, VC.eff, VC.callee, VC.pureB, VC.rdK, VC.rdKs, VC.okKs, VC.eqKs, VC.fillL, VC.putL, VC.stW, VC.stOK, VC.mixF, VC.setAll, Nat.reduceAdd, Nat.reduceSub, Nat.reduceMul, if_true, if_false, ↓reduceIte, forall_const, implies_true, reduceCtorEq, ne_eq, Nat.reduceBNe, Nat.reduceBEq, IntKind.signed, Nat.reduceEqDiff, Nat.reduceLeDiff, Nat.reduceLT, eq_self, Int.reduceEq, Int.reduceLT, Int.reduceLE, Int.reduceAdd, Int.reduceSub, VC.regC_nil, VC.regC_cons, VC.regCK_eq, VC.callQ, VC.tailQ, VC.goCall, VC.chStep]
  have hBb := hB0.trans (hB1.mono hH0.base)
  refine CALL_by (open_any A n c0 m w1 (hv.below (by rw [hrb]; exact hBb)) h1 hn) ?_
  rintro _ w2 ⟨a, rfl, hN, hB2⟩
  refine ⟨_, rfl, ?_⟩
  have hH1 := hH0.below hB1
  have hBc := hBb.trans (hB2.mono hH1.base)
  have hHj := (hp_join (hH1.below hB2) hN hH1.base fun q hq => (hH1.foot_lt hq).2).perm List.perm_append_comm
  rw [VC.Now, VC.seqK_eq]
  clear hcf hany hH1 hBb hrd hN hB2
  simp -dsimp (maxSteps := 2000000) only [Fa.F24, VC.Now, VC.vc, VC.lib, VC.mapN_drewN, VC.mapB_drewN, VC.regQ, VC.loopK, VC.reg, VC.opP, VC.opS, VC.opZ, VC.nomulB, VC.pv, VC.thenF, VC.blkF, VC.retF, VC.resV, VC.oneV, VC.evo, VC.bin, VC.binI, VC.cmpI, VC.arithI, VC.ldv, VC.slv, VC.pickP, VC.holds, VC.chainOf, VC.look, VC.junk, VC.put, VC.eff, VC.callee, VC.pureB, VC.rdK, VC.rdKs, VC.okKs, VC.eqKs, VC.fillL, VC.putL, VC.mixF, VC.setAll, Nat.reduceAdd, Nat.reduceSub, Nat.reduceMul, if_true, if_false, ↓reduceIte, forall_const, implies_true, reduceCtorEq, ne_eq, Nat.reduceBNe, Nat.reduceBEq, IntKind.signed, Nat.reduceEqDiff, Nat.reduceLeDiff, Nat.reduceLT, eq_self, Int.reduceEq, Int.reduceLT, Int.reduceLE, Int.reduceAdd, Int.reduceSub, VC.regC_nil, VC.regC_cons, VC.regCK_eq, VC.callQ, VC.tailQ, VC.goCall, VC.chStep]
  have hHo := (hHj.st_add (o := oBox w2.heap.size z5) ((Below.refl _ _).alloc (Nat.le_refl _) (.cells _ _)) (Box.new w2 _ 56) (fun g hg => by cases hg; exact Nat.le_refl _)).hp
  have hBo : Below rb w _ := hBc.trans (((Below.refl w2.heap.size w2).alloc (Nat.le_refl _) (.cells z5.toArray 56)).mono hHj.base)
  change WP _ _ _ _ _ _ (w2.alloc (.cells z5.toArray 56))
  generalize w2.alloc (.cells z5.toArray 56) = w9 at hHo hBo ⊢
  generalize w2.heap.size = b7 at hHo ⊢
  have hHs := (hHo.st_add (o := oOwn 24 1 0 nilS []) (Below.refl _ _) (OwnK.nil _ _ _ _) (fun g hg => by cases hg)).hp
  clear hHo hHj hBc hH0 hB0 hB1
  refine loop_slots Fa.mix [36] [10, 37, 38, 39, 40, 41, 42, 43, 44, 45, 46, 47, 48] (fun mm vs wx => ∃ (t : Nat) (v : NV) (vc : Value), t + mm = len ∧ vs = [.int .i64 t] ∧ Below rb w wx ∧
      Hp rb ([oOwn 24 1 t vc (ncodes n m g t), oBox b7 [vc, nilS, nilS, nilS, .bool false], oBox rb z5] ++ NObs n a (pOf n (nst n m g t)) v) wx) len (by kernel_rfl) rfl
      ⟨0, ⟨fun _ => nilS, fun _ => nilS⟩, nilS, by omega, rfl, hBo, hHs⟩ ?_
  clear hHs hBo
  rintro mm vs u3 wx ⟨t, q, vc, hkm, rfl, hBx, hH⟩
  have hinv := nst_inv (n := n) (m := m) (g := g) hn hm t
  by_cases ht : t < len
  · obtain ⟨b, o, rfl, hb, hc⟩ := (hr.below (by rw [hrb]; exact hBx)) (by omega)
    have s0 := hc t ht 0 _ rfl
    have s1 := hc t ht 1 _ rfl
    have s2 := hc t ht 2 _ rfl
    have s3 := hc t ht 3 _ rfl
    simp only [Nat.add_zero] at s0
    have e8 : ((t : Int) < len) = True := eq_true (by omega)
    have hms : nst n m g (t + 1) = (nstep n (g t) (nst n m g t)).2 := rfl
    have hmc := ncodes_succ n m g t
    generalize nst n m g t = s at *
    generalize hgk : g t = c at *
    obtain ⟨Ac, cc, ec, _⟩ := id (hH.get 0 rfl : OwnK wx 0 24 1 t vc _)
    simp -dsimp (maxSteps := 2000000) only [Fa.F24, e8, rdI_of s0, s0, rdI_of s1, s1, rdI_of s2, s2, rdI_of s3, s3, hb, Int.toNat_natCast, VC.Now, VC.vc, VC.lib, VC.mapN_drewN, VC.mapB_drewN, VC.regQ, VC.loopK, VC.reg, VC.opP, VC.opS, VC.opZ, VC.nomulB, VC.pv, VC.thenF, VC.blkF, VC.retF, VC.resV, VC.oneV, VC.evo, VC.bin, VC.binI, VC.cmpI, VC.arithI, VC.ldv, VC.slv, VC.pickP, VC.holds, VC.chainOf, VC.look, VC.junk, VC.put, VC.eff, VC.callee, VC.pureB, VC.rdK, VC.rdKs, VC.okKs, VC.eqKs, VC.fillL, VC.putL, VC.stW, VC.stOK, VC.mixF, VC.setAll, Nat.reduceAdd, Nat.reduceSub, Nat.reduceMul, if_true, if_false, ↓reduceIte, forall_const, implies_true, reduceCtorEq, ne_eq, Nat.reduceBNe, Nat.reduceBEq, IntKind.signed, Nat.reduceEqDiff, Nat.reduceLeDiff, Nat.reduceLT, eq_self, Int.reduceEq, Int.reduceLT, Int.reduceLE, Int.reduceAdd, Int.reduceSub, VC.regC_nil, VC.regC_cons, VC.regCK_eq, VC.callQ, VC.tailQ, VC.goCall, VC.chStep]
    refine ⟨by omega, ?_⟩
    have hsay : Box (wx.alloc (.cells (passL c).toArray 146)) wx.heap.size (passL c) := Box.new wx _ _
    have hBs : Below wx.heap.size wx (wx.alloc (.cells (passL c).toArray 146)) := (Below.refl _ _).alloc (Nat.le_refl _) _
    change WP _ _ _ _ _ _ (wx.alloc (.cells (passL c).toArray 146))
    generalize wx.alloc (.cells (passL c).toArray 146) = wy at hsay hBs ⊢
    have hHy := (hH.below hBs).perm (List.perm_append_comm)
    have hBy : Below rb w wy := hBx.trans (hBs.mono hH.base)
    have nsay : ¬ foot (NObs n a (pOf n s) q) wx.heap.size := fun hf => by have := ((hH.perm (List.perm_append_comm)).left.foot_lt hf).2; omega
    have nsc : vc.ownBlock ≠ some wx.heap.size := fun hf => by have := (hH.lt 0 rfl hf).2; omega
    generalize wx.heap.size = sb at hsay hBs nsay nsc ⊢
    have hby := hsay.1
    have z0 := hsay.at (i := 0) rfl
    have z1 := hsay.at (i := 1) rfl
    have z2 := hsay.at (i := 2) rfl
    have z3 := hsay.at (i := 3) rfl
    have hHz := hHy.perm (List.perm_append_comm)
    have y1 := (hHz.get 1 rfl : Box wy b7 _).at (i := 0) rfl
    rw [ec] at y1
    have hwl := (hHz.get 1 rfl : Box wy b7 _).1
    have n7 : ¬ foot (NObs n a (pOf n s) q) b7 := hHy.not_foot 1 rfl rfl
    have n7c : vc.ownBlock ≠ some b7 := fun hf => hHz.ne 0 1 (by decide) rfl rfl _ hf rfl
    have hHd := hHy.drewN 1
    have ag0 : Agree (fun j => foot (NObs n a (pOf n s) q) j ∨ vc.ownBlock = some j) wy (wy.drewN 1) := Agree.of_below (below_drewN (Below.refl _ wy) 1)
    refine WP_held 8 (fun j => foot (NObs n a (pOf n s) q) j ∨ vc.ownBlock = some j) (.take 0 (.take 1 (.take 2 (.take 3 (.one 4 (.one 5 (.one 6 (.take 7 (.one 8 .done))))))))) Fa.mix (by kernel_rfl) rfl ?_
    simp -dsimp (maxSteps := 2000000) only [VC.heldF_done, VC.heldF_last, VC.planF_done, VC.planF_take, VC.planF_one, VC.planF_two, VC.planK_eq, VC.heldF_take, VC.heldF_one, VC.heldF_two, VC.heldF_twoL, VC.heldK_eq, VC.okRd, Fa.F24, rdI_of z0, z0, rdI_of z1, z1, rdI_of z2, z2, rdI_of z3, z3, rdSA_of y1, rdSN_of y1, rdSC_of y1, y1, hwl, VC.Now, VC.vc, VC.lib, VC.mapN_drewN, VC.mapB_drewN, VC.regQ, VC.loopK, VC.reg, VC.opP, VC.opS, VC.opZ, VC.nomulB, VC.pv, VC.thenF, VC.blkF, VC.retF, VC.resV, VC.oneV, VC.evo, VC.bin, VC.binI, VC.cmpI, VC.arithI, VC.ldv, VC.slv, VC.pickP, VC.holds, VC.chainOf, VC.look, VC.junk, VC.put, VC.eff, VC.callee, VC.pureB, VC.rdK, VC.rdKs, VC.okKs, VC.eqKs, VC.fillL, VC.putL, VC.stW, VC.stOK, VC.mixF, VC.setAll, Nat.reduceAdd, Nat.reduceSub, Nat.reduceMul, if_true, if_false, ↓reduceIte, forall_const, implies_true, reduceCtorEq, ne_eq, Nat.reduceBNe, Nat.reduceBEq, IntKind.signed, Nat.reduceEqDiff, Nat.reduceLeDiff, Nat.reduceLT, eq_self, Int.reduceEq, Int.reduceLT, Int.reduceLE, Int.reduceAdd, Int.reduceSub, VC.regC_nil, VC.regC_cons, VC.regCK_eq, VC.callQ, VC.tailQ, VC.goCall, VC.chStep]
    refine ⟨fun h => h.elim n7 n7c, ⟨hby, fun h => h.elim nsay nsc⟩, ?_⟩
    have hgft : fits .i64 c.n := by rw [← hgk]; exact hgf t
    refine CALL_by (pstep_any hHd.left (hinv.pb (by omega)) hn c hgft) fun e w4 hp => ⟨_, hp.1, ?_⟩
    obtain ⟨_, q', st4⟩ := hp
    obtain ⟨hres1, hres2⟩ := step_rel (c := c) hinv
    rw [hres2.obs] at st4
    have st5 := (st4.part hHd).perm List.perm_append_comm List.perm_append_comm
    have ag4 := ag0.trans (st4.agree.mono fun j _ hj => Or.inl hj)
    have hH4 := st5.hp
    have y2 := (hH4.get 1 rfl : Box w4 b7 _).at (i := 0) rfl
    have hw4 := (hH4.get 1 rfl : Box w4 b7 _).1
    rw [ec] at y2
    simp -dsimp (maxSteps := 2000000) only [VC.heldF_done, VC.heldF_last, VC.planF_done, VC.planF_take, VC.planF_one, VC.planF_two, VC.planK_eq, VC.heldF_take, VC.heldF_one, VC.heldF_two, VC.heldF_twoL, VC.heldK_eq, VC.okRd, Fa.F24, rdSA_of y1, rdSN_of y1, rdSC_of y1, y1, hwl, hw4, rdSA_of y2, rdSN_of y2, rdSC_of y2, y2, VC.Now, VC.vc, VC.lib, VC.mapN_drewN, VC.mapB_drewN, VC.regQ, VC.loopK, VC.reg, VC.opP, VC.opS, VC.opZ, VC.nomulB, VC.pv, VC.thenF, VC.blkF, VC.retF, VC.resV, VC.oneV, VC.evo, VC.bin, VC.binI, VC.cmpI, VC.arithI, VC.ldv, VC.slv, VC.pickP, VC.holds, VC.chainOf, VC.look, VC.junk, VC.put, VC.eff, VC.callee, VC.pureB, VC.rdK, VC.rdKs, VC.okKs, VC.eqKs, VC.fillL, VC.putL, VC.stW, VC.stOK, VC.mixF, VC.setAll, Nat.reduceAdd, Nat.reduceSub, Nat.reduceMul, if_true, if_false, ↓reduceIte, forall_const, implies_true, reduceCtorEq, ne_eq, Nat.reduceBNe, Nat.reduceBEq, IntKind.signed, Nat.reduceEqDiff, Nat.reduceLeDiff, Nat.reduceLT, eq_self, Int.reduceEq, Int.reduceLT, Int.reduceLE, Int.reduceAdd, Int.reduceSub, VC.regC_nil, VC.regC_cons, VC.regCK_eq, VC.callQ, VC.tailQ, VC.goCall, VC.chStep]
    refine ⟨ag4, ag4.trans (Agree.of_below ((Below.refl _ _).alloc (Nat.le_refl _) _)), ?_⟩
    refine OPW_appK (v := vc) rfl Fa.apI33 (by rw [ec]; rfl) rfl rfl (by simp [Value.oneCell']) (hH4.get 0 rfl) (Nat.zero_le _) (by omega) (by decide) fun v5 w5 ho5 hg5 hst5 => ?_
    rw [hres1, ← hmc] at ho5
    obtain ⟨⟨r1, r2⟩, st6⟩ := hH4.growField 1 0 rfl rfl (by decide) ho5 hg5 hst5 0 (by show 0 < 5; omega)
    obtain ⟨A5, c5, rfl, _⟩ := id ho5
    have hw6 : b7 < w5.heap.size := by simpa using (st6.hp.get 1 rfl : Box _ b7 _).1
    simp -dsimp (maxSteps := 2000000) only [VC.heldF_done, VC.heldF_last, VC.planF_done, VC.planF_take, VC.planF_one, VC.planF_two, VC.planK_eq, VC.heldF_take, VC.heldF_one, VC.heldF_two, VC.heldF_twoL, VC.heldK_eq, VC.okRd, Fa.F24, hw6, hw4, hwl, VC.Now, VC.vc, VC.lib, VC.mapN_drewN, VC.mapB_drewN, VC.regQ, VC.loopK, VC.reg, VC.opP, VC.opS, VC.opZ, VC.nomulB, VC.pv, VC.thenF, VC.blkF, VC.retF, VC.resV, VC.oneV, VC.evo, VC.bin, VC.binI, VC.cmpI, VC.arithI, VC.ldv, VC.slv, VC.pickP, VC.holds, VC.chainOf, VC.look, VC.junk, VC.put, VC.eff, VC.callee, VC.pureB, VC.rdK, VC.rdKs, VC.okKs, VC.eqKs, VC.fillL, VC.putL, VC.stW, VC.stOK, VC.mixF, VC.setAll, Nat.reduceAdd, Nat.reduceSub, Nat.reduceMul, if_true, if_false, ↓reduceIte, forall_const, implies_true, reduceCtorEq, ne_eq, Nat.reduceBNe, Nat.reduceBEq, IntKind.signed, Nat.reduceEqDiff, Nat.reduceLeDiff, Nat.reduceLT, eq_self, Int.reduceEq, Int.reduceLT, Int.reduceLE, Int.reduceAdd, Int.reduceSub, VC.regC_nil, VC.regC_cons, VC.regCK_eq, VC.callQ, VC.tailQ, VC.goCall, VC.chStep]
    have ag6 := ag4.trans (Agree.grown hg5 fun j hj => Or.inr hj)
    have hBw : Below rb w (w5.setCell ⟨b7, 0, none⟩ (.slice A5 (t + 1) c5)) := hBy.trans ((below_drewN (Below.refl rb wy) 1).trans ((st5.trans st6).below (hHd.perm List.perm_append_comm)))
    refine ⟨ag6, ⟨r1, r2⟩, fits_i64_nat (by omega), SAME.intro (by kernel_rfl), mm - 1, by omega, t + 1, q', .slice A5 (t + 1) c5, by omega, rfl, hBw, ?_⟩
    rw [hms]
    exact st6.hp
  · obtain rfl : t = len := by omega
    clear hBa hr hv hgf e1 e2 e3 hkm ht hln
    revert A n c0 A2 cap m g w wa rb u w1 w2 a w9 b7 mm u3 wx t q vc
    exact HH.1
end Go.Proofs.Ytelfmhiaafkimaa
