/- An assembly: the program's whole run. -/
import Derived.Test.YtnggjekppdlaoaaMoot5
import Derived.Test.YtnggjekppdlaoaaChainDecR
namespace Go.Proofs.Ytnggjekppdlaoaa
open Go Go.RowKit Go.VC
set_option linter.unusedSimpArgs false
set_option linter.unusedVariables false

/-- A slice of n steps. -/
def RdSay (w : World) (A : Option Addr) (n : Nat) (f : Nat → Say) : Prop :=
  0 < n → ∃ b o, A = some ⟨b, o, none⟩ ∧ b < w.heap.size ∧ ∀ i, i < n → SayOK (f i) ∧ w.cell? ⟨b, o + i * 5, none⟩ = some (.int .i64 (f i).kind) ∧ w.cell? ⟨b, o + i * 5 + 1, none⟩ = some (.int .i64 (f i).who) ∧
    w.cell? ⟨b, o + i * 5 + 2, none⟩ = some (.int .i64 (f i).block) ∧ w.cell? ⟨b, o + i * 5 + 3, none⟩ = some (.int .i64 (f i).round) ∧ w.cell? ⟨b, o + i * 5 + 4, none⟩ = some (.int .i64 (f i).high)
theorem RdSay.of_arg {w : World} {A : Option Addr} {n : Nat} (h : ArgS w A n 5 [.i .i64, .i .i64, .i .i64, .i .i64, .i .i64]) : ∃ f, RdSay w A n f := by
  by_cases h0 : 0 < n
  · obtain ⟨b, o, rfl, hb, hc⟩ := h h0
    refine ⟨fun i => ⟨rdI w ⟨b, o + i * 5, none⟩, rdI w ⟨b, o + i * 5 + 1, none⟩, rdI w ⟨b, o + i * 5 + 2, none⟩, rdI w ⟨b, o + i * 5 + 3, none⟩, rdI w ⟨b, o + i * 5 + 4, none⟩⟩, fun _ => ⟨b, o, rfl, hb, fun i hi => ?_⟩⟩
    obtain ⟨h1, n1, h1', h1f⟩ := hc i hi 0 _ rfl
    obtain ⟨h2, n2, h2', h2f⟩ := hc i hi 1 _ rfl
    obtain ⟨h3, n3, h3', h3f⟩ := hc i hi 2 _ rfl
    obtain ⟨h4, n4, h4', h4f⟩ := hc i hi 3 _ rfl
    obtain ⟨h5, n5, h5', h5f⟩ := hc i hi 4 _ rfl
    simp only [rdK, Value.int.injEq, true_and] at h1' h2' h3' h4' h5'
    rw [h2'.symm] at h2f; rw [h3'.symm] at h3f; rw [h4'.symm] at h4f; rw [h5'.symm] at h5f
    exact ⟨⟨h2f, h3f, h4f, h5f⟩, h1, h2, h3, h4, h5⟩
  · exact ⟨fun _ => ⟨0, 0, 0, 0, 0⟩, fun h => absurd h h0⟩
theorem RdSay.below {w w' : World} {A : Option Addr} {n : Nat} {f : Nat → Say} (h : RdSay w A n f) (hb : Below w.heap.size w w') : RdSay w' A n f := by
  intro h0
  obtain ⟨b, o, rfl, hlt, hc⟩ := h h0
  refine ⟨b, o, rfl, Nat.lt_of_lt_of_le hlt hb.size, fun i hi => ?_⟩
  obtain ⟨h0, h1, h2, h3, h4, h5⟩ := hc i hi
  exact ⟨h0, (hb.cell (p := ⟨b, _, none⟩) hlt).trans h1, (hb.cell (p := ⟨b, _, none⟩) hlt).trans h2, (hb.cell (p := ⟨b, _, none⟩) hlt).trans h3, (hb.cell (p := ⟨b, _, none⟩) hlt).trans h4, (hb.cell (p := ⟨b, _, none⟩) hlt).trans h5⟩
abbrev nilS : Value := .slice none 0 0
noncomputable abbrev mcodes (n need liars : Nat) (f : Nat → Say) (k : Nat) : List Value := (List.range k).map fun i => Value.int .i64 (mcode n need liars f i)
noncomputable abbrev certL (need : Nat) (s : MS) : List Bool := (List.range s.nb).map (certB need s)
/-- What an assembly comes to. -/
def MeetV (n need liars : Nat) (f : Nat → Say) (k : Nat) (v : Value) (w : World) : Prop :=
  ∃ A0 c0 A1 c1 A2 c2 A3 c3, v = .agg #[.slice A0 k c0, .slice A1 (mst n need liars f k).nb c1, .slice A2 (mst n need liars f k).nb c2, .slice A3 (mst n need liars f k).nb c3] ∧
    Rd w A0 (mcodes n need liars f k) ∧ RdBlk w A1 (mst n need liars f k).nb (mst n need liars f k).p (mst n need liars f k).r ∧
    Rd w A2 ((certL need (mst n need liars f k)).map Value.bool) ∧ Rd w A3 ((onL (mst n need liars f k).nb (decF (certL need (mst n need liars f k)) (mst n need liars f k).p (mst n need liars f k).r (mst n need liars f k).nb)).map Value.bool)
section
variable {w : World}

set_option maxRecDepth 8000 in
set_option maxHeartbeats 4000000 in
theorem mplay_any (A : Option Addr) (n f liars len cap : Nat) (g : Nat → Say) (w : World) (hr : RdSay w A len g) (h1 : 1 ≤ n) (h7 : n ≤ 7) (hf : 3 * f < n) (hl : liars < 2 ^ n) (hlen : len ≤ 120) :
    Calls Try.prog 15 #[.int .i64 n, .int .i64 f, .int .u32 liars, .slice A len cap] w fun e w' => ∃ v, e = .returned (.tuple #[v, .int .i64 0]) ∧ MeetV n (n - f) liars g len v w' ∧ Below w.heap.size w w' := by
  have e1 : ((n : Int) < 1) = False := eq_false (by omega)
  have e2 : ((7 : Int) < n) = False := eq_false (by omega)
  have e3 : ((120 : Int) < len) = False := eq_false (by omega)
  have e4 : ((f : Int) < 0) = False := eq_false (by omega)
  have e5 : (((n : Int) - 1).tdiv 3 < f) = False := eq_false (by rw [Int.tdiv_eq_ediv_of_nonneg (by omega)]; omega)
  have e6 : ((liars : Int).fdiv (2 ^ shN .u32 (n : Int)) = 0) = True := by rw [shr_zero (by omega)]; exact eq_true hl
  have hl32 : liars < 4294967296 := Nat.lt_of_lt_of_le hl (Nat.le_trans (Nat.pow_le_pow_right (by omega) h7) (by decide))
  refine calls_vc (rs := [.cell 8 47, .tmp 9]) Fa.mix Try.func15 rfl Try.ntmps15 rfl (by kernel_rfl) (Nat.le_of_ble_eq_true rfl) ?_
  (repeat rw [vc_seq]); refine vc_plain _ fun Q hQ => ?_; simp -dsimp only [Fa.F15, e1, e2, e3, e4, VC.Now, VC.vc_skip, VC.vc_ret, VC.vc_exit, VC.vc_block, VC.vc_cond, VC.vc_region, VC.lib, VC.regQ, VC.loopK, VC.reg, VC.opP, VC.pv, VC.thenF, VC.blkF, VC.retF, VC.resV, VC.oneV, VC.evo, VC.bin, VC.binI, VC.cmpI, VC.arithI, VC.ldv, VC.slv, VC.pickP, VC.holds, VC.chainOf, VC.look, VC.junk, VC.put, VC.eff, VC.callee, VC.pureB, VC.rdK, VC.rdKs, VC.okKs, VC.eqKs, VC.fillL, VC.putL, VC.stW, VC.stOK, VC.mixF, VC.setAll, Nat.reduceAdd, Nat.reduceSub, Nat.reduceMul, if_true, if_false, ↓reduceIte, forall_const, implies_true, reduceCtorEq, ne_eq, Nat.reduceBNe, Nat.reduceBEq, IntKind.signed, Nat.reduceEqDiff, Nat.reduceLeDiff, Nat.reduceLT, eq_self, Int.reduceEq, Int.reduceLT, Int.reduceLE, Int.reduceAdd, Int.reduceSub, VC.regC_nil, VC.regC_cons, VC.regCK_eq, VC.callQ, VC.tailQ, VC.goCall, VC.chStep]
  subst hQ; simp -dsimp only [VC.Now, VC.vc_skip, VC.vc_ret, VC.vc_exit, VC.vc_block, VC.vc_cond, VC.vc_region, VC.lib, VC.regQ, VC.loopK, VC.reg, VC.opP, VC.pv, VC.thenF, VC.blkF, VC.retF, VC.resV, VC.oneV, VC.evo, VC.bin, VC.binI, VC.cmpI, VC.arithI, VC.ldv, VC.slv, VC.pickP, VC.holds, VC.chainOf, VC.look, VC.junk, VC.put, VC.eff, VC.callee, VC.pureB, VC.rdK, VC.rdKs, VC.okKs, VC.eqKs, VC.fillL, VC.putL, VC.stW, VC.stOK, VC.mixF, VC.setAll, Nat.reduceAdd, Nat.reduceSub, Nat.reduceMul, if_true, if_false, ↓reduceIte, forall_const, implies_true, reduceCtorEq, ne_eq, Nat.reduceBNe, Nat.reduceBEq, IntKind.signed, Nat.reduceEqDiff, Nat.reduceLeDiff, Nat.reduceLT, eq_self, Int.reduceEq, Int.reduceLT, Int.reduceLE, Int.reduceAdd, Int.reduceSub, VC.regC_nil, VC.regC_cons, VC.regCK_eq, VC.callQ, VC.tailQ, VC.goCall, VC.chStep]; (repeat rw [vc_seq]); refine vc_plain _ fun Q hQ => ?_; simp -dsimp only [Fa.F15, e1, e2, e3, e4, VC.Now, VC.vc_skip, VC.vc_ret, VC.vc_exit, VC.vc_block, VC.vc_cond, VC.vc_region, VC.lib, VC.regQ, VC.loopK, VC.reg, VC.opP, VC.pv, VC.thenF, VC.blkF, VC.retF, VC.resV, VC.oneV, VC.evo, VC.bin, VC.binI, VC.cmpI, VC.arithI, VC.ldv, VC.slv, VC.pickP, VC.holds, VC.chainOf, VC.look, VC.junk, VC.put, VC.eff, VC.callee, VC.pureB, VC.rdK, VC.rdKs, VC.okKs, VC.eqKs, VC.fillL, VC.putL, VC.stW, VC.stOK, VC.mixF, VC.setAll, Nat.reduceAdd, Nat.reduceSub, Nat.reduceMul, if_true, if_false, ↓reduceIte, forall_const, implies_true, reduceCtorEq, ne_eq, Nat.reduceBNe, Nat.reduceBEq, IntKind.signed, Nat.reduceEqDiff, Nat.reduceLeDiff, Nat.reduceLT, eq_self, Int.reduceEq, Int.reduceLT, Int.reduceLE, Int.reduceAdd, Int.reduceSub, VC.regC_nil, VC.regC_cons, VC.regCK_eq, VC.callQ, VC.tailQ, VC.goCall, VC.chStep]
  intro u
  subst hQ
  have hH0 := (Hp.nil (B := w.heap.size) (Nat.le_refl _)).st_add (o := oBox w.heap.size [nilS, nilS, nilS, nilS]) ((Below.refl _ _).alloc (Nat.le_refl _) (.cells #[nilS, nilS, nilS, nilS] 47)) (Box.new w _ _) (fun g hg => by cases hg; exact Nat.le_refl _)
  have hB0 : Below w.heap.size w (w.alloc (.cells #[nilS, nilS, nilS, nilS] 47)) := (Below.refl _ _).alloc (Nat.le_refl _) _
  replace hH0 := hH0.hp
  have hrl : w.heap.size < (w.alloc (.cells #[nilS, nilS, nilS, nilS] 47)).heap.size := by simp
  change vc _ _ _ _ _ _ (w.alloc (.cells #[nilS, nilS, nilS, nilS] 47))
  generalize w.alloc (.cells #[nilS, nilS, nilS, nilS] 47) = w1 at hH0 hB0 hrl ⊢
  generalize hrb : w.heap.size = rb at hH0 hB0 hrl ⊢
  simp -dsimp only [Fa.F15, e1, e2, e3, e4, e5, e6, VC.Now, VC.vc, VC.lib, VC.regQ, VC.loopK, VC.reg, VC.opP, VC.pv, VC.thenF, VC.blkF, VC.retF, VC.resV, VC.oneV, VC.evo, VC.bin, VC.binI, VC.cmpI, VC.arithI, VC.ldv, VC.slv, VC.pickP, VC.holds, VC.chainOf, VC.look, VC.junk, VC.put, VC.eff, VC.callee, VC.pureB, VC.rdK, VC.rdKs, VC.okKs, VC.eqKs, VC.fillL, VC.putL, VC.stW, VC.stOK, VC.mixF, VC.setAll, Nat.reduceAdd, Nat.reduceSub, Nat.reduceMul, if_true, if_false, ↓reduceIte, forall_const, implies_true, reduceCtorEq, ne_eq, Nat.reduceBNe, Nat.reduceBEq, IntKind.signed, Nat.reduceEqDiff, Nat.reduceLeDiff, Nat.reduceLT, eq_self, Int.reduceEq, Int.reduceLT, Int.reduceLE, Int.reduceAdd, Int.reduceSub, VC.regC_nil, VC.regC_cons, VC.regCK_eq, VC.callQ, VC.tailQ, VC.goCall, VC.chStep]
  have ht : 0 ≤ ((n : Int) - 1).tdiv 3 ∧ ((n : Int) - 1).tdiv 3 ≤ 7 := by rw [Int.tdiv_eq_ediv_of_nonneg (by omega)]; omega
  refine ⟨fits_i64 (by omega) (by omega), fits_i64 (by omega) (by omega), fun u1 => ?_⟩
  refine ⟨by omega, fits_i64 (by omega) (by omega), ?_⟩
  have hH1 := (hH0.st_add (o := oOwn 116 2 1 (.slice (some ⟨w1.heap.size, 0, none⟩) 1 1) [.int .i64 (-1), .int .i64 0]) ((Below.refl _ _).alloc (Nat.le_refl _) (.cells #[.int .i64 (-1), .int .i64 0] 116))
    (OwnK.lit w1 _ 2 1 [.int .i64 (-1), .int .i64 0] (Nat.zero_le _) (by decide) rfl) (fun g hg => by cases hg; exact Nat.le_refl _)).hp
  have hz1 : (w1.alloc (.cells #[.int .i64 (-1), .int .i64 0] 116)).heap.size = w1.heap.size + 1 := by simp
  have hBa : Below rb w (w1.alloc (.cells #[.int .i64 (-1), .int .i64 0] 116)) := hB0.trans (((Below.refl _ w1).alloc (Nat.le_refl _) _).mono (by omega))
  generalize w1.alloc (.cells #[.int .i64 (-1), .int .i64 0] 116) = w2 at hH1 hz1 hBa ⊢
  have hH2 := (hH1.st_add (o := oOwn 33 1 1 (.slice (some ⟨w2.heap.size, 0, none⟩) 1 1) [.int .u32 0]) ((Below.refl _ _).alloc (Nat.le_refl _) (.cells #[.int .u32 0] 33))
    (OwnK.lit w2 _ 1 1 [.int .u32 0] (Nat.zero_le _) (by decide) rfl) (fun g hg => by cases hg; exact Nat.le_refl _)).hp
  have hz2 : (w2.alloc (.cells #[.int .u32 0] 33)).heap.size = w2.heap.size + 1 := by simp
  have hBb : Below rb w (w2.alloc (.cells #[.int .u32 0] 33)) := hBa.trans (((Below.refl _ w2).alloc (Nat.le_refl _) _).mono (by omega))
  generalize w2.alloc (.cells #[.int .u32 0] 33) = w3 at hH2 hz2 hBb ⊢
  rw [hz1] at hH2
  generalize hg1 : w1.heap.size = g1 at hH2 ⊢
  refine OPW_makeK (n := n) (base := 0) rfl Fa.apI118 rfl rfl rfl rfl (by omega) (by omega) (Nat.zero_le _) fun w4 ho4 hg4 => ?_
  have hB4 : Below w3.heap.size w3 w4 := (Below.refl _ _).grown hg4 (Nat.le_refl _) fun k hk => by cases hk
  have hl4 : w3.heap.size < w4.heap.size := (ho4.lt (g := w3.heap.size) rfl).2
  have hH3 := (hH2.st_add (o := oRecs w3.heap.size n 2 (memC ms0)) hB4 (Recs.of_own (cs := memC ms0) ho4 hl4 (fun i hi j hj => made_at _ rfl hi hj)) (fun g hg => by cases hg; exact Nat.le_refl _)).hp
  have hBc := hBb.trans (hB4.mono (by omega))
  generalize hgm : w3.heap.size = gm at hH3 ⊢
  simp -dsimp only [Fa.F15, e1, e2, e3, e4, e5, e6, VC.Now, VC.vc, VC.lib, VC.regQ, VC.loopK, VC.reg, VC.opP, VC.pv, VC.thenF, VC.blkF, VC.retF, VC.resV, VC.oneV, VC.evo, VC.bin, VC.binI, VC.cmpI, VC.arithI, VC.ldv, VC.slv, VC.pickP, VC.holds, VC.chainOf, VC.look, VC.junk, VC.put, VC.eff, VC.callee, VC.pureB, VC.rdK, VC.rdKs, VC.okKs, VC.eqKs, VC.fillL, VC.putL, VC.stW, VC.stOK, VC.mixF, VC.setAll, Nat.reduceAdd, Nat.reduceSub, Nat.reduceMul, if_true, if_false, ↓reduceIte, forall_const, implies_true, reduceCtorEq, ne_eq, Nat.reduceBNe, Nat.reduceBEq, IntKind.signed, Nat.reduceEqDiff, Nat.reduceLeDiff, Nat.reduceLT, eq_self, Int.reduceEq, Int.reduceLT, Int.reduceLE, Int.reduceAdd, Int.reduceSub, VC.regC_nil, VC.regC_cons, VC.regCK_eq, VC.callQ, VC.tailQ, VC.goCall, VC.chStep]
  refine OPW_makeMapV EG rfl fun w5 hw5 hM5 => ?_
  have hB5 : Below w4.heap.size w4 w5 := by rw [hw5]; exact (Below.refl _ _).alloc (Nat.le_refl _) _
  have hH4 := (hH3.st_add (o := oMap EG w4.heap.size 0 (lateM ms0)) hB5 (hM5.congr fun k _ => by unfold lateM; exact if_neg id) (fun g hg => by cases hg; exact Nat.le_refl _)).hp
  have hz5 : w5.heap.size = w4.heap.size + 1 := by rw [hw5]; simp
  have hBd := hBc.trans (hB5.mono (by omega))
  clear hw5 hM5
  rw [VC.Now, VC.seqK_eq]
  generalize hbl : w4.heap.size = bl at hH4 ⊢
  simp -dsimp only [Fa.F15, e1, e2, e3, e4, e5, e6, VC.Now, VC.vc, VC.lib, VC.regQ, VC.loopK, VC.reg, VC.opP, VC.pv, VC.thenF, VC.blkF, VC.retF, VC.resV, VC.oneV, VC.evo, VC.bin, VC.binI, VC.cmpI, VC.arithI, VC.ldv, VC.slv, VC.pickP, VC.holds, VC.chainOf, VC.look, VC.junk, VC.put, VC.eff, VC.callee, VC.pureB, VC.rdK, VC.rdKs, VC.okKs, VC.eqKs, VC.fillL, VC.putL, VC.stW, VC.stOK, VC.mixF, VC.setAll, Nat.reduceAdd, Nat.reduceSub, Nat.reduceMul, if_true, if_false, ↓reduceIte, forall_const, implies_true, reduceCtorEq, ne_eq, Nat.reduceBNe, Nat.reduceBEq, IntKind.signed, Nat.reduceEqDiff, Nat.reduceLeDiff, Nat.reduceLT, eq_self, Int.reduceEq, Int.reduceLT, Int.reduceLE, Int.reduceAdd, Int.reduceSub, VC.regC_nil, VC.regC_cons, VC.regCK_eq, VC.callQ, VC.tailQ, VC.goCall, VC.chStep]
  refine OPW_makeMapV EW rfl fun w6 hw6 hM6 => ?_
  have hB6 : Below w5.heap.size w5 w6 := by rw [hw6]; exact (Below.refl _ _).alloc (Nat.le_refl _) _
  have hH5 := (hH4.st_add (o := oMap EW w5.heap.size 0 (gaveM ms0)) hB6 (hM6.congr fun k _ => by unfold gaveM; exact if_pos rfl) (fun g hg => by cases hg; exact Nat.le_refl _)).hp
  have hz6 : w6.heap.size = w5.heap.size + 1 := by rw [hw6]; simp
  have hBe := hBd.trans (hB6.mono (by omega))
  clear hw6 hM6
  generalize hbg : w5.heap.size = bg at hH5 ⊢
  rw [VC.Now, VC.seqK_eq]
  simp -dsimp only [Fa.F15, e1, e2, e3, e4, e5, e6, VC.Now, VC.vc, VC.lib, VC.regQ, VC.loopK, VC.reg, VC.opP, VC.pv, VC.thenF, VC.blkF, VC.retF, VC.resV, VC.oneV, VC.evo, VC.bin, VC.binI, VC.cmpI, VC.arithI, VC.ldv, VC.slv, VC.pickP, VC.holds, VC.chainOf, VC.look, VC.junk, VC.put, VC.eff, VC.callee, VC.pureB, VC.rdK, VC.rdKs, VC.okKs, VC.eqKs, VC.fillL, VC.putL, VC.stW, VC.stOK, VC.mixF, VC.setAll, Nat.reduceAdd, Nat.reduceSub, Nat.reduceMul, if_true, if_false, ↓reduceIte, forall_const, implies_true, reduceCtorEq, ne_eq, Nat.reduceBNe, Nat.reduceBEq, IntKind.signed, Nat.reduceEqDiff, Nat.reduceLeDiff, Nat.reduceLT, eq_self, Int.reduceEq, Int.reduceLT, Int.reduceLE, Int.reduceAdd, Int.reduceSub, VC.regC_nil, VC.regC_cons, VC.regCK_eq, VC.callQ, VC.tailQ, VC.goCall, VC.chStep]
  rw [show ((n : Int) - (f : Int)) = ((n - f : Nat) : Int) by omega]
  have hH6 := (hH5.st_add (o := oBox w6.heap.size (mootC n (n - f) liars ⟨w6.heap.size, gm, bl, bg, 0, 0, .slice (some ⟨g1, 0, none⟩) 1 1, .slice (some ⟨g1 + 1, 0, none⟩) 1 1⟩)) ((Below.refl _ _).alloc (Nat.le_refl _) (.cells _ _)) (Box.new w6 _ 122) (fun g hg => by cases hg; exact Nat.le_refl _)).hp
  have hB7 : Below w6.heap.size w6 (w6.alloc (.cells #[.int .i64 n, .int .i64 ((n - f : Nat) : Int), .int .u32 liars, .slice (some ⟨g1, 0, none⟩) 1 1, .slice (some ⟨g1 + 1, 0, none⟩) 1 1, .slice (some ⟨gm, 0, none⟩) n n, .map (some bl), .map (some bg)] 122)) := (Below.refl _ _).alloc (Nat.le_refl _) _
  have hz7 : (w6.alloc (.cells #[.int .i64 n, .int .i64 ((n - f : Nat) : Int), .int .u32 liars, .slice (some ⟨g1, 0, none⟩) 1 1, .slice (some ⟨g1 + 1, 0, none⟩) 1 1, .slice (some ⟨gm, 0, none⟩) n n, .map (some bl), .map (some bg)] 122)).heap.size = w6.heap.size + 1 := by simp
  change Hp _ _ (w6.alloc (.cells #[.int .i64 n, .int .i64 ((n - f : Nat) : Int), .int .u32 liars, .slice (some ⟨g1, 0, none⟩) 1 1, .slice (some ⟨g1 + 1, 0, none⟩) 1 1, .slice (some ⟨gm, 0, none⟩) n n, .map (some bl), .map (some bg)] 122)) at hH6
  generalize w6.alloc (.cells #[.int .i64 n, .int .i64 ((n - f : Nat) : Int), .int .u32 liars, .slice (some ⟨g1, 0, none⟩) 1 1, .slice (some ⟨g1 + 1, 0, none⟩) 1 1, .slice (some ⟨gm, 0, none⟩) n n, .map (some bl), .map (some bg)] 122) = w7 at hH6 hB7 hz7 ⊢
  have hBf := hBe.trans (hB7.mono (by omega))
  have hH7 := (hH6.st_add (o := oBox w7.heap.size [nilS, nilS, nilS, nilS]) ((Below.refl _ _).alloc (Nat.le_refl _) (.cells _ _)) (Box.new w7 _ 47) (fun g hg => by cases hg; exact Nat.le_refl _)).hp
  have hB8 : Below w7.heap.size w7 (w7.alloc (.cells #[nilS, nilS, nilS, nilS] 47)) := (Below.refl _ _).alloc (Nat.le_refl _) _
  change Hp _ _ (w7.alloc (.cells #[nilS, nilS, nilS, nilS] 47)) at hH7
  generalize w7.alloc (.cells #[nilS, nilS, nilS, nilS] 47) = w8 at hH7 hB8 ⊢
  have hBg := hBf.trans (hB8.mono (by omega))
  rw [hz7] at hH7
  generalize hmb : w6.heap.size = mb at hH7 ⊢
  have hH8 := (hH7.st_add (o := oOwn 27 1 0 nilS []) (Below.refl _ _) (OwnK.nil _ _ _ _) (fun g hg => by cases hg)).hp
  have hH9 := hH8.pick [2, 7, 6, 5, 4, 3, 1, 0, 8] (by decide) (MObs n (n - f) liars ⟨mb, gm, bl, bg, 0, 0, .slice (some ⟨g1, 0, none⟩) 1 1, .slice (some ⟨g1 + 1, 0, none⟩) 1 1⟩ ms0 ++ [oBox (mb + 1) [nilS, nilS, nilS, nilS], oOwn 27 1 0 nilS [], oBox rb [nilS, nilS, nilS, nilS]]) rfl
  clear hH0 hH1 hH2 hH3 hH4 hH5 hH6 hH7 hH8 hB0 hBa hBb hBc hBd hBe hBf hB4 hB5 hB6 hB7 hB8 ho4 hg4
  refine loop_slots Fa.mix [58] [13, 59, 60, 61, 62, 63, 64, 65, 66, 67, 68, 69, 70] (fun m vs wx => ∃ (k : Nat) (vb vv vc : Value) (nl ng : Nat), k + m = len ∧ vs = [.int .i64 k] ∧ nl ≤ k ∧ ng ≤ k ∧ Below rb w wx ∧
      Hp rb (MObs n (n - f) liars ⟨mb, gm, bl, bg, nl, ng, vb, vv⟩ (mst n (n - f) liars g k) ++ [oBox (mb + 1) [vc, nilS, nilS, nilS], oOwn 27 1 k vc (mcodes n (n - f) liars g k), oBox rb [nilS, nilS, nilS, nilS]]) wx) len (by kernel_rfl) rfl
    ⟨0, _, _, nilS, 0, 0, by omega, rfl, by omega, by omega, hBg, hH9⟩ ?_
  clear hH9 hBg
  rintro m vs u wx ⟨k, vb, vv, vc, nl, ng, hkm, rfl, hnl, hng, hBx, hH⟩
  have hok := mok n (n - f) liars g k
  by_cases hk : k < len
  · obtain ⟨b, o, rfl, hb, hc⟩ := (hr.below (by rw [hrb]; exact hBx)) (by omega)
    obtain ⟨hsk, s0, s1, s2, s3, s4⟩ := hc k hk
    have e7 : ((k : Int) < len) = True := eq_true (by omega)
    have hms : mst n (n - f) liars g (k + 1) = (mstep n (n - f) liars (g k) (mst n (n - f) liars g k)).2 := rfl
    have hmc : mcodes n (n - f) liars g (k + 1) = mcodes n (n - f) liars g k ++ [.int .i64 (mstep n (n - f) liars (g k) (mst n (n - f) liars g k)).1] := by
      unfold mcodes; rw [List.range_succ, List.map_append]; rfl
    generalize mst n (n - f) liars g k = s at *
    generalize hgk : g k = c at *
    obtain ⟨Ac, cc, rfl, _⟩ := id (hH.get 7 rfl : OwnK wx 0 27 1 k vc _)
    have y0 := (hH.get 6 rfl : Box wx (mb + 1) _).at (i := 0) rfl
    simp -dsimp only [Fa.F15, e7, rdI_of s0, s0, rdI_of s1, s1, rdI_of s2, s2, rdI_of s3, s3, rdI_of s4, s4, Int.toNat_natCast, VC.Now, VC.vc, VC.lib, VC.regQ, VC.loopK, VC.reg, VC.opP, VC.pv, VC.thenF, VC.blkF, VC.retF, VC.resV, VC.oneV, VC.evo, VC.bin, VC.binI, VC.cmpI, VC.arithI, VC.ldv, VC.slv, VC.pickP, VC.holds, VC.chainOf, VC.look, VC.junk, VC.put, VC.eff, VC.callee, VC.pureB, VC.rdK, VC.rdKs, VC.okKs, VC.eqKs, VC.fillL, VC.putL, VC.stW, VC.stOK, VC.mixF, VC.setAll, Nat.reduceAdd, Nat.reduceSub, Nat.reduceMul, if_true, if_false, ↓reduceIte, forall_const, implies_true, reduceCtorEq, ne_eq, Nat.reduceBNe, Nat.reduceBEq, IntKind.signed, Nat.reduceEqDiff, Nat.reduceLeDiff, Nat.reduceLT, eq_self, Int.reduceEq, Int.reduceLT, Int.reduceLE, Int.reduceAdd, Int.reduceSub, VC.regC_nil, VC.regC_cons, VC.regCK_eq, VC.callQ, VC.tailQ, VC.goCall, VC.chStep]
    refine ⟨by omega, ?_⟩
    have hsay : Box (wx.alloc (.cells (sayL c).toArray 124)) wx.heap.size (sayL c) := Box.new wx _ _
    have hBs : Below wx.heap.size wx (wx.alloc (.cells (sayL c).toArray 124)) := (Below.refl _ _).alloc (Nat.le_refl _) _
    change WP _ _ _ _ _ _ (wx.alloc (.cells (sayL c).toArray 124))
    generalize wx.alloc (.cells (sayL c).toArray 124) = wy at hsay hBs ⊢
    have hby : wx.heap.size < wy.heap.size := hsay.1
    have hHy := hH.below hBs
    have hBy : Below rb w wy := hBx.trans (hBs.mono hH.base)
    have nsay : ¬ foot (MObs n (n - f) liars ⟨mb, gm, bl, bg, nl, ng, vb, vv⟩ s) wx.heap.size := fun hf => by have := (hH.left.foot_lt hf).2; omega
    have nsc : (Value.slice Ac k cc).ownBlock ≠ some wx.heap.size := fun hf => by have := (hH.lt 7 rfl hf).2; omega
    generalize wx.heap.size = sb at hsay hby nsay nsc ⊢
    have z0 := hsay.at (i := 0) rfl
    have z1 := hsay.at (i := 1) rfl
    have z2 := hsay.at (i := 2) rfl
    have z3 := hsay.at (i := 3) rfl
    have z4 := hsay.at (i := 4) rfl
    have y1 := (hHy.get 6 rfl : Box wy (mb + 1) _).at (i := 0) rfl
    have hob := (hHy.get 6 rfl : Box wy (mb + 1) _).1
    have nob := hHy.not_foot (L := MObs n (n - f) liars ⟨mb, gm, bl, bg, nl, ng, vb, vv⟩ s) 0 rfl (j := mb + 1) rfl
    have noc : (Value.slice Ac k cc).ownBlock ≠ some (mb + 1) := fun hf => hHy.ne 6 7 (by decide) rfl rfl (mb + 1) rfl hf
    refine WP_held 8 (fun j => foot (MObs n (n - f) liars ⟨mb, gm, bl, bg, nl, ng, vb, vv⟩ s) j ∨ (Value.slice Ac k cc).ownBlock = some j) (.take 0 (.take 1 (.take 2 (.take 3 (.one 4 (.one 5 (.one 6 (.take 7 (.one 8 .done))))))))) Fa.mix (by kernel_rfl) rfl ?_
    simp -dsimp only [VC.heldF_done, VC.heldF_last, VC.planF_done, VC.planF_take, VC.planF_one, VC.planF_two, VC.planK_eq, VC.heldF_take, VC.heldF_one, VC.heldF_two, VC.heldF_twoL, VC.heldK_eq, VC.okRd, Fa.F15, rdI_of z0, z0, rdI_of z1, z1, rdI_of z2, z2, rdI_of z3, z3, rdI_of z4, z4, rdSA_of y1, rdSN_of y1, rdSC_of y1, y1, VC.Now, VC.vc, VC.lib, VC.regQ, VC.loopK, VC.reg, VC.opP, VC.pv, VC.thenF, VC.blkF, VC.retF, VC.resV, VC.oneV, VC.evo, VC.bin, VC.binI, VC.cmpI, VC.arithI, VC.ldv, VC.slv, VC.pickP, VC.holds, VC.chainOf, VC.look, VC.junk, VC.put, VC.eff, VC.callee, VC.pureB, VC.rdK, VC.rdKs, VC.okKs, VC.eqKs, VC.fillL, VC.putL, VC.stW, VC.stOK, VC.mixF, VC.setAll, Nat.reduceAdd, Nat.reduceSub, Nat.reduceMul, if_true, if_false, ↓reduceIte, forall_const, implies_true, reduceCtorEq, ne_eq, Nat.reduceBNe, Nat.reduceBEq, IntKind.signed, Nat.reduceEqDiff, Nat.reduceLeDiff, Nat.reduceLT, eq_self, Int.reduceEq, Int.reduceLT, Int.reduceLE, Int.reduceAdd, Int.reduceSub, VC.regC_nil, VC.regC_cons, VC.regCK_eq, VC.callQ, VC.tailQ, VC.goCall, VC.chStep]
    refine ⟨⟨hob, fun h => h.elim nob noc⟩, ⟨hby, fun h => h.elim nsay nsc⟩, ?_⟩
    have hHd := hHy.drewN 1
    have ag0 : Agree (fun j => foot (MObs n (n - f) liars ⟨mb, gm, bl, bg, nl, ng, vb, vv⟩ s) j ∨ (Value.slice Ac k cc).ownBlock = some j) wy (wy.drewN 1) := Agree.of_below (below_drewN (Below.refl _ wy) 1)
    refine CALL_by (step_any hHd.left hok (by omega) (by omega) hl32 (by omega) (by show nl ≤ 1000; omega) (by show ng ≤ 1000; omega) hsk) fun e w4 hp => ⟨_, hp.1, ?_⟩
    obtain ⟨_, vb', vv', nl', ng', hnl', hng', st4⟩ := hp
    have st5 := st4.part hHd
    have ag4 := ag0.trans (st4.agree.mono fun j _ hj => Or.inl hj)
    have hH4 := st5.hp
    simp -dsimp only [VC.heldF_done, VC.heldF_last, VC.planF_done, VC.planF_take, VC.planF_one, VC.planF_two, VC.planK_eq, VC.heldF_take, VC.heldF_one, VC.heldF_two, VC.heldF_twoL, VC.heldK_eq, VC.okRd, Fa.F15, rdI_of z0, z0, rdI_of z1, z1, rdI_of z2, z2, rdI_of z3, z3, rdI_of z4, z4, rdSA_of y1, rdSN_of y1, rdSC_of y1, y1, VC.Now, VC.vc, VC.lib, VC.regQ, VC.loopK, VC.reg, VC.opP, VC.pv, VC.thenF, VC.blkF, VC.retF, VC.resV, VC.oneV, VC.evo, VC.bin, VC.binI, VC.cmpI, VC.arithI, VC.ldv, VC.slv, VC.pickP, VC.holds, VC.chainOf, VC.look, VC.junk, VC.put, VC.eff, VC.callee, VC.pureB, VC.rdK, VC.rdKs, VC.okKs, VC.eqKs, VC.fillL, VC.putL, VC.stW, VC.stOK, VC.mixF, VC.setAll, Nat.reduceAdd, Nat.reduceSub, Nat.reduceMul, if_true, if_false, ↓reduceIte, forall_const, implies_true, reduceCtorEq, ne_eq, Nat.reduceBNe, Nat.reduceBEq, IntKind.signed, Nat.reduceEqDiff, Nat.reduceLeDiff, Nat.reduceLT, eq_self, Int.reduceEq, Int.reduceLT, Int.reduceLE, Int.reduceAdd, Int.reduceSub, VC.regC_nil, VC.regC_cons, VC.regCK_eq, VC.callQ, VC.tailQ, VC.goCall, VC.chStep]
    refine ⟨ag4, ag4.trans (Agree.of_below ((Below.refl _ _).alloc (Nat.le_refl _) _)), ?_⟩
    refine OPW_appK (v := .slice Ac k cc) rfl Fa.apI23 rfl rfl rfl (by simp [Value.oneCell']) (hH4.get 7 rfl) (Nat.zero_le _) (by omega) (by decide) fun v5 w5 ho5 hg5 hst5 => ?_
    rw [← hmc] at ho5
    obtain ⟨⟨r1, r2⟩, st6⟩ := hH4.growField 6 7 rfl rfl (by decide) ho5 hg5 hst5 0 (by show 0 < 4; omega)
    obtain ⟨A5, c5, rfl, _⟩ := id ho5
    simp -dsimp only [VC.heldF_done, VC.heldF_last, VC.planF_done, VC.planF_take, VC.planF_one, VC.planF_two, VC.planK_eq, VC.heldF_take, VC.heldF_one, VC.heldF_two, VC.heldF_twoL, VC.heldK_eq, VC.okRd, Fa.F15, rdI_of z0, z0, rdI_of z1, z1, rdI_of z2, z2, rdI_of z3, z3, rdI_of z4, z4, rdSA_of y1, rdSN_of y1, rdSC_of y1, y1, VC.Now, VC.vc, VC.lib, VC.regQ, VC.loopK, VC.reg, VC.opP, VC.pv, VC.thenF, VC.blkF, VC.retF, VC.resV, VC.oneV, VC.evo, VC.bin, VC.binI, VC.cmpI, VC.arithI, VC.ldv, VC.slv, VC.pickP, VC.holds, VC.chainOf, VC.look, VC.junk, VC.put, VC.eff, VC.callee, VC.pureB, VC.rdK, VC.rdKs, VC.okKs, VC.eqKs, VC.fillL, VC.putL, VC.stW, VC.stOK, VC.mixF, VC.setAll, Nat.reduceAdd, Nat.reduceSub, Nat.reduceMul, if_true, if_false, ↓reduceIte, forall_const, implies_true, reduceCtorEq, ne_eq, Nat.reduceBNe, Nat.reduceBEq, IntKind.signed, Nat.reduceEqDiff, Nat.reduceLeDiff, Nat.reduceLT, eq_self, Int.reduceEq, Int.reduceLT, Int.reduceLE, Int.reduceAdd, Int.reduceSub, VC.regC_nil, VC.regC_cons, VC.regCK_eq, VC.callQ, VC.tailQ, VC.goCall, VC.chStep]
    have hBw : Below rb w (w5.setCell ⟨mb + 1, 0, none⟩ (.slice A5 (k + 1) c5)) := hBy.trans ((below_drewN (Below.refl rb wy) 1).trans ((st5.trans st6).below hHd))
    refine ⟨ag4.trans (Agree.grown hg5 fun j hj => Or.inr hj), ⟨r1, r2⟩, fits_i64_nat (by omega), SAME.intro (by kernel_rfl), m - 1, by omega, k + 1, vb', vv', .slice A5 (k + 1) c5, nl', ng', by omega, rfl, ?_, ?_, hBw, ?_⟩
    · have : nl' ≤ nl + 1 := hnl'; omega
    · have : ng' ≤ ng + 1 := hng'; omega
    · rw [hms]
      exact st6.hp
  · obtain rfl : k = len := by omega
    have e7 : ((k : Int) < k) = False := eq_false (by omega)
    generalize hs : mst n (n - f) liars g k = s at *
    generalize hcs : mcodes n (n - f) liars g k = codes at *
    obtain ⟨gb, cb, eb, hgb, _⟩ := mo_blk hH.left hok.nb0
    have b3 := (mo_box hH.left).at (i := 3) rfl
    have eb : vb = .slice (some ⟨gb, 0, none⟩) s.nb cb := eb
    subst eb
    simp -dsimp only [Fa.F15, e7, rdSA_of b3, rdSN_of b3, rdSC_of b3, b3, VC.Now, VC.vc, VC.lib, VC.regQ, VC.loopK, VC.reg, VC.opP, VC.pv, VC.thenF, VC.blkF, VC.retF, VC.resV, VC.oneV, VC.evo, VC.bin, VC.binI, VC.cmpI, VC.arithI, VC.ldv, VC.slv, VC.pickP, VC.holds, VC.chainOf, VC.look, VC.junk, VC.put, VC.eff, VC.callee, VC.pureB, VC.rdK, VC.rdKs, VC.okKs, VC.eqKs, VC.fillL, VC.putL, VC.stW, VC.stOK, VC.mixF, VC.setAll, Nat.reduceAdd, Nat.reduceSub, Nat.reduceMul, if_true, if_false, ↓reduceIte, forall_const, implies_true, reduceCtorEq, ne_eq, Nat.reduceBNe, Nat.reduceBEq, IntKind.signed, Nat.reduceEqDiff, Nat.reduceLeDiff, Nat.reduceLT, eq_self, Int.reduceEq, Int.reduceLT, Int.reduceLE, Int.reduceAdd, Int.reduceSub, VC.regC_nil, VC.regC_cons, VC.regCK_eq, VC.callQ, VC.tailQ, VC.goCall, VC.chStep]
    have hH2 := ((hH.st_add (o := oOwn 4 1 0 nilS []) (Below.refl _ _) (OwnK.nil _ _ _ _) (fun g hg => by cases hg)).hp).pick [1, 2, 3, 4, 5, 6, 7, 8, 9, 0] (by decide)
      (MObs n (n - f) liars ⟨mb, gm, bl, bg, nl, ng, .slice (some ⟨gb, 0, none⟩) s.nb cb, vv⟩ s ++ [oBox (mb + 1) [vc, nilS, nilS, nilS], oOwn 27 1 k vc codes, oBox rb [nilS, nilS, nilS, nilS], oOwn 4 1 0 nilS []]) rfl
    refine loop_slots Fa.mix [76] [14, 77, 78, 79, 80, 81, 82, 83, 84, 85, 86, 87] (fun m vs wx => ∃ (j : Nat) (ve : Value), j + m = s.nb ∧ vs = [.int .i64 j] ∧ Below rb w wx ∧
      Hp rb (MObs n (n - f) liars ⟨mb, gm, bl, bg, nl, ng, .slice (some ⟨gb, 0, none⟩) s.nb cb, vv⟩ s ++ [oBox (mb + 1) [vc, nilS, ve, nilS], oOwn 27 1 k vc codes, oBox rb [nilS, nilS, nilS, nilS], oOwn 4 1 j ve ((List.range j).map fun b => .bool (certB (n - f) s b))]) wx) s.nb (by kernel_rfl) rfl
      ⟨0, nilS, by omega, rfl, hBx, hH2⟩ ?_
    clear hH hH2 hBx b3 hgb
    rintro m vs u wx ⟨j, ve, hjm, rfl, hBx, hH⟩
    have hnb := hok.nb1
    by_cases hj : j < s.nb
    · have e8 : ((j : Int) < s.nb) = True := eq_true (by omega)
      obtain ⟨Ac, cc, rfl, _⟩ := id (hH.get 9 rfl : OwnK wx 0 4 1 j ve _)
      have y1 := (hH.get 6 rfl : Box wx (mb + 1) _).at (i := 2) rfl
      have hob := (hH.get 6 rfl : Box wx (mb + 1) _).1
      have noc : (Value.slice Ac j cc).ownBlock ≠ some (mb + 1) := fun hf => hH.ne 6 9 (by decide) rfl rfl (mb + 1) rfl hf
      simp -dsimp only [Fa.F15, e8, VC.Now, VC.vc, VC.lib, VC.regQ, VC.loopK, VC.reg, VC.opP, VC.pv, VC.thenF, VC.blkF, VC.retF, VC.resV, VC.oneV, VC.evo, VC.bin, VC.binI, VC.cmpI, VC.arithI, VC.ldv, VC.slv, VC.pickP, VC.holds, VC.chainOf, VC.look, VC.junk, VC.put, VC.eff, VC.callee, VC.pureB, VC.rdK, VC.rdKs, VC.okKs, VC.eqKs, VC.fillL, VC.putL, VC.stW, VC.stOK, VC.mixF, VC.setAll, Nat.reduceAdd, Nat.reduceSub, Nat.reduceMul, if_true, if_false, ↓reduceIte, forall_const, implies_true, reduceCtorEq, ne_eq, Nat.reduceBNe, Nat.reduceBEq, IntKind.signed, Nat.reduceEqDiff, Nat.reduceLeDiff, Nat.reduceLT, eq_self, Int.reduceEq, Int.reduceLT, Int.reduceLE, Int.reduceAdd, Int.reduceSub, VC.regC_nil, VC.regC_cons, VC.regCK_eq, VC.callQ, VC.tailQ, VC.goCall, VC.chStep]
      refine WP_held 8 (fun x => (Value.slice Ac j cc).ownBlock = some x) (.take 0 (.take 1 (.take 2 (.take 3 (.one 4 (.one 5 (.one 6 (.take 7 (.one 8 .done))))))))) Fa.mix (by kernel_rfl) rfl ?_
      simp -dsimp only [VC.heldF_done, VC.heldF_last, VC.planF_done, VC.planF_take, VC.planF_one, VC.planF_two, VC.planK_eq, VC.heldF_take, VC.heldF_one, VC.heldF_two, VC.heldF_twoL, VC.heldK_eq, VC.okRd, Fa.F15, rdSA_of y1, rdSN_of y1, rdSC_of y1, y1, VC.Now, VC.vc, VC.lib, VC.regQ, VC.loopK, VC.reg, VC.opP, VC.pv, VC.thenF, VC.blkF, VC.retF, VC.resV, VC.oneV, VC.evo, VC.bin, VC.binI, VC.cmpI, VC.arithI, VC.ldv, VC.slv, VC.pickP, VC.holds, VC.chainOf, VC.look, VC.junk, VC.put, VC.eff, VC.callee, VC.pureB, VC.rdK, VC.rdKs, VC.okKs, VC.eqKs, VC.fillL, VC.putL, VC.stW, VC.stOK, VC.mixF, VC.setAll, Nat.reduceAdd, Nat.reduceSub, Nat.reduceMul, if_true, if_false, ↓reduceIte, forall_const, implies_true, reduceCtorEq, ne_eq, Nat.reduceBNe, Nat.reduceBEq, IntKind.signed, Nat.reduceEqDiff, Nat.reduceLeDiff, Nat.reduceLT, eq_self, Int.reduceEq, Int.reduceLT, Int.reduceLE, Int.reduceAdd, Int.reduceSub, VC.regC_nil, VC.regC_cons, VC.regCK_eq, VC.callQ, VC.tailQ, VC.goCall, VC.chStep]
      have hHd := hH.drewN 1
      have ag0 : Agree (fun x => (Value.slice Ac j cc).ownBlock = some x) wx (wx.drewN 1) := Agree.of_below (below_drewN (Below.refl _ wx) 1)
      refine ⟨⟨hob, noc⟩, CALL_of (certified_any hHd.left hok (by omega) (by omega) hj) fun w4 hw4 => ?_⟩
      have hH4 := hHd.below hw4
      have ag4 := ag0.trans (Agree.of_below hw4)
      simp -dsimp only [VC.heldF_done, VC.heldF_last, VC.planF_done, VC.planF_take, VC.planF_one, VC.planF_two, VC.planK_eq, VC.heldF_take, VC.heldF_one, VC.heldF_two, VC.heldF_twoL, VC.heldK_eq, VC.okRd, Fa.F15, rdSA_of y1, rdSN_of y1, rdSC_of y1, y1, VC.Now, VC.vc, VC.lib, VC.regQ, VC.loopK, VC.reg, VC.opP, VC.pv, VC.thenF, VC.blkF, VC.retF, VC.resV, VC.oneV, VC.evo, VC.bin, VC.binI, VC.cmpI, VC.arithI, VC.ldv, VC.slv, VC.pickP, VC.holds, VC.chainOf, VC.look, VC.junk, VC.put, VC.eff, VC.callee, VC.pureB, VC.rdK, VC.rdKs, VC.okKs, VC.eqKs, VC.fillL, VC.putL, VC.stW, VC.stOK, VC.mixF, VC.setAll, Nat.reduceAdd, Nat.reduceSub, Nat.reduceMul, if_true, if_false, ↓reduceIte, forall_const, implies_true, reduceCtorEq, ne_eq, Nat.reduceBNe, Nat.reduceBEq, IntKind.signed, Nat.reduceEqDiff, Nat.reduceLeDiff, Nat.reduceLT, eq_self, Int.reduceEq, Int.reduceLT, Int.reduceLE, Int.reduceAdd, Int.reduceSub, VC.regC_nil, VC.regC_cons, VC.regCK_eq, VC.callQ, VC.tailQ, VC.goCall, VC.chStep]
      refine ⟨ag4, ag4.trans (Agree.of_below ((Below.refl _ _).alloc (Nat.le_refl _) _)), ?_⟩
      refine OPW_appK (v := .slice Ac j cc) rfl Fa.apI24 rfl rfl rfl (by simp [Value.oneCell']) (hH4.get 9 rfl) (Nat.zero_le _) (by omega) (by decide) fun v5 w5 ho5 hg5 hst5 => ?_
      have hmc : ((List.range j).map fun b => Value.bool (certB (n - f) s b)) ++ [.bool (certB (n - f) s j)] = (List.range (j + 1)).map fun b => Value.bool (certB (n - f) s b) := by rw [List.range_succ, List.map_append]; rfl
      rw [hmc] at ho5
      obtain ⟨⟨r1, r2⟩, st6⟩ := hH4.growField 6 9 rfl rfl (by decide) ho5 hg5 hst5 2 (by show 2 < 4; omega)
      obtain ⟨A5, c5, rfl, _⟩ := id ho5
      simp -dsimp only [VC.heldF_done, VC.heldF_last, VC.planF_done, VC.planF_take, VC.planF_one, VC.planF_two, VC.planK_eq, VC.heldF_take, VC.heldF_one, VC.heldF_two, VC.heldF_twoL, VC.heldK_eq, VC.okRd, Fa.F15, rdSA_of y1, rdSN_of y1, rdSC_of y1, y1, VC.Now, VC.vc, VC.lib, VC.regQ, VC.loopK, VC.reg, VC.opP, VC.pv, VC.thenF, VC.blkF, VC.retF, VC.resV, VC.oneV, VC.evo, VC.bin, VC.binI, VC.cmpI, VC.arithI, VC.ldv, VC.slv, VC.pickP, VC.holds, VC.chainOf, VC.look, VC.junk, VC.put, VC.eff, VC.callee, VC.pureB, VC.rdK, VC.rdKs, VC.okKs, VC.eqKs, VC.fillL, VC.putL, VC.stW, VC.stOK, VC.mixF, VC.setAll, Nat.reduceAdd, Nat.reduceSub, Nat.reduceMul, if_true, if_false, ↓reduceIte, forall_const, implies_true, reduceCtorEq, ne_eq, Nat.reduceBNe, Nat.reduceBEq, IntKind.signed, Nat.reduceEqDiff, Nat.reduceLeDiff, Nat.reduceLT, eq_self, Int.reduceEq, Int.reduceLT, Int.reduceLE, Int.reduceAdd, Int.reduceSub, VC.regC_nil, VC.regC_cons, VC.regCK_eq, VC.callQ, VC.tailQ, VC.goCall, VC.chStep]
      have hBw : Below rb w (w5.setCell ⟨mb + 1, 2, none⟩ (.slice A5 (j + 1) c5)) := hBx.trans ((below_drewN (Below.refl rb wx) 1).trans ((hw4.mono hHd.base).trans (st6.below hH4)))
      exact ⟨ag4.trans (Agree.grown hg5 fun x hx => hx), ⟨r1, r2⟩, fits_i64_nat (by omega), SAME.intro (by kernel_rfl), m - 1, by omega, j + 1, .slice A5 (j + 1) c5, by omega, rfl, hBw, st6.hp⟩
    · obtain rfl : j = s.nb := by omega
      have e8 : ((s.nb : Int) < s.nb) = False := eq_false (by omega)
      obtain ⟨gb', cb', eb, hgb, hblk⟩ := mo_blk hH.left hok.nb0
      have eb : Value.slice (some ⟨gb, 0, none⟩) s.nb cb = .slice (some ⟨gb', 0, none⟩) s.nb cb' := eb
      cases eb
      obtain ⟨Ac, cc, rfl, _⟩ := id (hH.get 9 rfl : OwnK wx 0 4 1 s.nb ve _)
      obtain ⟨A0, c0, rfl, _⟩ := id (hH.get 7 rfl : OwnK wx 0 27 1 k vc _)
      have b3 := (mo_box hH.left).at (i := 3) rfl
      have obx : Box wx (mb + 1) [.slice A0 k c0, nilS, .slice Ac s.nb cc, nilS] := hH.get 6 rfl
      have x1 := obx.at (i := 1) rfl
      have fx1 := obx.soft (i := 1) (by show 1 < 4; omega)
      have st1 := hH.setBox 6 rfl 1 (.slice (some ⟨gb, 0, none⟩) s.nb cb)
      simp -dsimp only [Fa.F15, e8, rdSA_of b3, rdSN_of b3, rdSC_of b3, b3, x1, fx1, VC.Now, VC.vc, VC.lib, VC.regQ, VC.loopK, VC.reg, VC.opP, VC.pv, VC.thenF, VC.blkF, VC.retF, VC.resV, VC.oneV, VC.evo, VC.bin, VC.binI, VC.cmpI, VC.arithI, VC.ldv, VC.slv, VC.pickP, VC.holds, VC.chainOf, VC.look, VC.junk, VC.put, VC.eff, VC.callee, VC.pureB, VC.rdK, VC.rdKs, VC.okKs, VC.eqKs, VC.fillL, VC.putL, VC.stW, VC.stOK, VC.mixF, VC.setAll, Nat.reduceAdd, Nat.reduceSub, Nat.reduceMul, if_true, if_false, ↓reduceIte, forall_const, implies_true, reduceCtorEq, ne_eq, Nat.reduceBNe, Nat.reduceBEq, IntKind.signed, Nat.reduceEqDiff, Nat.reduceLeDiff, Nat.reduceLT, eq_self, Int.reduceEq, Int.reduceLT, Int.reduceLE, Int.reduceAdd, Int.reduceSub, VC.regC_nil, VC.regC_cons, VC.regCK_eq, VC.callQ, VC.tailQ, VC.goCall, VC.chStep]
      have hB1 : Below rb w (wx.setCell ⟨mb + 1, 1, none⟩ (.slice (some ⟨gb, 0, none⟩) s.nb cb)) := hBx.trans (st1.below hH)
      have hH1 := st1.hp
      generalize wx.setCell ⟨mb + 1, 1, none⟩ (.slice (some ⟨gb, 0, none⟩) s.nb cb) = w2 at hH1 hB1 ⊢
      clear st1 b3 obx x1 fx1 hH hgb hblk hBx
      obtain ⟨gb', cb', eb, hgb, hblk⟩ := mo_blk hH1.left hok.nb0
      have eb : Value.slice (some ⟨gb, 0, none⟩) s.nb cb = .slice (some ⟨gb', 0, none⟩) s.nb cb' := eb
      cases eb
      have b3 := (mo_box hH1.left).at (i := 3) rfl
      have obx : Box w2 (mb + 1) [.slice A0 k c0, .slice (some ⟨gb, 0, none⟩) s.nb cb, .slice Ac s.nb cc, nilS] := hH1.get 6 rfl
      have x2 := obx.at (i := 2) rfl
      have hmb := (mo_box hH1.left).1
      have hob := obx.1
      have hrd : RdBlk w2 (some ⟨gb, 0, none⟩) s.nb s.p s.r := fun _ => ⟨gb, 0, rfl, hgb, fun i hi => ⟨by rw [Nat.zero_add]; exact (hblk i hi).1, by rw [Nat.zero_add]; exact (hblk i hi).2, ?_, ?_⟩⟩
      rotate_left
      · by_cases h0 : i = 0
        · subst h0; rw [hok.ok.1]; exact fits_i64 (by omega) (by omega)
        · have := hok.par (b := i) (by omega) hi; exact fits_i64 (by omega) (by omega)
      · have := hok.rr i hi; exact fits_i64 (by omega) (by omega)
      have hrC : Rd w2 Ac ((certL (n - f) s).map Value.bool) := by
        have := (hH1.get 9 rfl : OwnK w2 0 4 1 s.nb (.slice Ac s.nb cc) _).rd.2
        rw [List.map_map]
        exact this
      have hcl : (certL (n - f) s).length = s.nb := by simp [certL]
      have hbc : blkCode s.nb s.p s.r = 0 := blkCode_0 (by omega) (by have := hok.nb0; omega) hok.ok
      have hde : deCode s.nb s.p s.r s.nb = 0 := by unfold deCode; rw [if_pos hbc, if_pos rfl]
      have ag0 : Agree (fun _ => False) w2 (w2.drewN 1) := Agree.of_below (below_drewN (Below.refl _ w2) 1)
      refine WP_held 11 (fun _ => False) (.take 0 (.take 1 (.take 2 (.take 3 (.take 4 (.take 5 (.one 6 (.take 7 (.take 8 (.take 10 (.twoL 9 (.one 11 .done) 11 (.take 9 .done)))))))))))) Fa.mix (by kernel_rfl) rfl ?_
      simp -dsimp only [VC.heldF_done, VC.heldF_last, VC.planF_done, VC.planF_take, VC.planF_one, VC.planF_two, VC.planK_eq, VC.heldF_take, VC.heldF_one, VC.heldF_two, VC.heldF_twoL, VC.heldK_eq, VC.okRd, Fa.F15, rdSA_of b3, rdSN_of b3, rdSC_of b3, b3, rdSA_of x2, rdSN_of x2, rdSC_of x2, x2, VC.Now, VC.vc, VC.lib, VC.regQ, VC.loopK, VC.reg, VC.opP, VC.pv, VC.thenF, VC.blkF, VC.retF, VC.resV, VC.oneV, VC.evo, VC.bin, VC.binI, VC.cmpI, VC.arithI, VC.ldv, VC.slv, VC.pickP, VC.holds, VC.chainOf, VC.look, VC.junk, VC.put, VC.eff, VC.callee, VC.pureB, VC.rdK, VC.rdKs, VC.okKs, VC.eqKs, VC.fillL, VC.putL, VC.stW, VC.stOK, VC.mixF, VC.setAll, Nat.reduceAdd, Nat.reduceSub, Nat.reduceMul, if_true, if_false, ↓reduceIte, forall_const, implies_true, reduceCtorEq, ne_eq, Nat.reduceBNe, Nat.reduceBEq, IntKind.signed, Nat.reduceEqDiff, Nat.reduceLeDiff, Nat.reduceLT, eq_self, Int.reduceEq, Int.reduceLT, Int.reduceLE, Int.reduceAdd, Int.reduceSub, VC.regC_nil, VC.regC_cons, VC.regCK_eq, VC.callQ, VC.tailQ, VC.goCall, VC.chStep]
      refine ⟨hmb, hob, CALL_ex (chainDecided_any _ _ s.nb cb s.nb cc s.p s.r (certL (n - f) s) (w2.drewN 1) (hrd.below (below_drewN (Below.refl _ _) 1)) (hrC.below (below_drewN (Below.refl _ _) 1)) hcl) fun v w3 ⟨_, hv, hw3⟩ => ?_⟩
      obtain ⟨D, q, rfl, hoD⟩ := hv hde
      have hH3 := ((hH1.drewN 1).st_add hw3 (o := oOwn 4 1 s.nb (.slice D s.nb q) ((onL s.nb (decF (certL (n - f) s) s.p s.r s.nb)).map Value.bool)) (by
        have := OwnK.of_own hoD
        rw [List.length_map, onL_length] at this
        exact this.mono (Nat.zero_le _)) (fun g hg => by
        have := (OwnK.of_own hoD).lt hg
        exact this.1)).hp
      have hB3 : Below rb w w3 := hB1.trans ((below_drewN (Below.refl rb w2) 1).trans (hw3.mono (hH1.drewN 1).base))
      have st4 := hH3.setBox 7 rfl 3 (.slice D s.nb q)
      have ob3 : Box w3 (mb + 1) [.slice A0 k c0, .slice (some ⟨gb, 0, none⟩) s.nb cb, .slice Ac s.nb cc, nilS] := hH3.get 7 rfl
      have k3 : (w3.cell? ⟨mb + 1, 3, none⟩).isSome = true := by rw [ob3.at (i := 3) rfl]; rfl
      have f3 := ob3.soft (i := 3) (by show 3 < 4; omega)
      have ob4 : Box (w3.setCell ⟨mb + 1, 3, none⟩ (.slice D s.nb q)) (mb + 1) [.slice A0 k c0, .slice (some ⟨gb, 0, none⟩) s.nb cb, .slice Ac s.nb cc, .slice D s.nb q] := st4.hp.get 7 rfl
      obtain ⟨o5, st5⟩ := st4.hp.allBox 9 rfl (vs := [.slice A0 k c0, .slice (some ⟨gb, 0, none⟩) s.nb cb, .slice Ac s.nb cc, .slice D s.nb q]) rfl (by intro v hv; simp at hv; rcases hv with rfl | rfl | rfl | rfl <;> rfl)
      have y0 := ob4.at (i := 0) rfl
      have y1 := ob4.at (i := 1) rfl
      have y2 := ob4.at (i := 2) rfl
      have y3 := ob4.at (i := 3) rfl
      have rb5 : Box _ rb [.slice A0 k c0, .slice (some ⟨gb, 0, none⟩) s.nb cb, .slice Ac s.nb cc, .slice D s.nb q] := st5.hp.get 9 rfl
      have t0 := rb5.at (i := 0) rfl
      have t1 := rb5.at (i := 1) rfl
      have t2 := rb5.at (i := 2) rfl
      have t3 := rb5.at (i := 3) rfl
      simp -dsimp only [VC.heldF_done, VC.heldF_last, VC.planF_done, VC.planF_take, VC.planF_one, VC.planF_two, VC.planK_eq, VC.heldF_take, VC.heldF_one, VC.heldF_two, VC.heldF_twoL, VC.heldK_eq, VC.okRd, Fa.F15, k3, f3, stOK_one, stW_one, rdSA_of y0, rdSN_of y0, rdSC_of y0, y0, rdSA_of y1, rdSN_of y1, rdSC_of y1, y1, rdSA_of y2, rdSN_of y2, rdSC_of y2, y2, rdSA_of y3, rdSN_of y3, rdSC_of y3, y3, rdSA_of t0, rdSN_of t0, rdSC_of t0, t0, rdSA_of t1, rdSN_of t1, rdSC_of t1, t1, rdSA_of t2, rdSN_of t2, rdSC_of t2, t2, rdSA_of t3, rdSN_of t3, rdSC_of t3, t3, VC.Now, VC.vc, VC.lib, VC.regQ, VC.loopK, VC.reg, VC.opP, VC.pv, VC.thenF, VC.blkF, VC.retF, VC.resV, VC.oneV, VC.evo, VC.bin, VC.binI, VC.cmpI, VC.arithI, VC.ldv, VC.slv, VC.pickP, VC.holds, VC.chainOf, VC.look, VC.junk, VC.put, VC.eff, VC.callee, VC.pureB, VC.rdK, VC.rdKs, VC.okKs, VC.eqKs, VC.fillL, VC.putL, VC.mixF, VC.setAll, Nat.reduceAdd, Nat.reduceSub, Nat.reduceMul, if_true, if_false, ↓reduceIte, forall_const, implies_true, reduceCtorEq, ne_eq, Nat.reduceBNe, Nat.reduceBEq, IntKind.signed, Nat.reduceEqDiff, Nat.reduceLeDiff, Nat.reduceLT, eq_self, Int.reduceEq, Int.reduceLT, Int.reduceLE, Int.reduceAdd, Int.reduceSub, VC.regC_nil, VC.regC_cons, VC.regCK_eq, VC.callQ, VC.tailQ, VC.goCall, VC.chStep]
      have hB5 := hB3.trans ((st4.trans st5).below hH3)
      have h5 := st5.hp
      generalize stW (w3.setCell ⟨mb + 1, 3, none⟩ (.slice D s.nb q)) ⟨rb, 0, none⟩ 0 [.slice A0 k c0, .slice (some ⟨gb, 0, none⟩) s.nb cb, .slice Ac s.nb cc, .slice D s.nb q] = w5 at h5 hB5 ⊢
      have hMV : MeetV n (n - f) liars g k (.agg #[.slice A0 k c0, .slice (some ⟨gb, 0, none⟩) s.nb cb, .slice Ac s.nb cc, .slice D s.nb q]) w5 := by
        have ob : OwnK w5 0 116 2 s.nb (.slice (some ⟨gb, 0, none⟩) s.nb cb) (blkC s.p s.r s.nb) := h5.get 2 rfl
        have hg5 : gb < w5.heap.size := (ob.lt (g := gb) rfl).2
        unfold MeetV
        rw [hs, hcs]
        refine ⟨A0, c0, some ⟨gb, 0, none⟩, cb, Ac, cc, D, q, rfl, (h5.get 8 rfl : OwnK w5 0 27 1 k (.slice A0 k c0) codes).rd.2, fun _ => ⟨gb, 0, rfl, hg5, fun i hi => ?_⟩, ?_, (h5.get 0 rfl : OwnK w5 0 4 1 s.nb (.slice D s.nb q) _).rd.2⟩
        · obtain ⟨h1, h2⟩ := blkC_at s.p s.r hi
          refine ⟨by rw [Nat.zero_add]; exact (ob.at (by omega)).1.trans h1, by rw [Nat.zero_add]; exact (ob.at (by omega)).1.trans h2, ?_, ?_⟩
          · by_cases h0 : i = 0
            · subst h0; rw [hok.ok.1]; exact fits_i64 (by omega) (by omega)
            · have := hok.par (b := i) (by omega) hi; exact fits_i64 (by omega) (by omega)
          · have := hok.rr i hi; exact fits_i64 (by omega) (by omega)
        · have := (h5.get 10 rfl : OwnK w5 0 4 1 s.nb (.slice Ac s.nb cc) _).rd.2
          rw [List.map_map]
          exact this
      have ag3 : Agree (fun _ => False) w2 w3 := ag0.trans (Agree.of_below hw3)
      exact ⟨ag3, ⟨ag3, o5, _, rfl, hMV, hB5⟩, o5, _, rfl, hMV, hB5⟩
end
end Go.Proofs.Ytnggjekppdlaoaa
