/- When all rests: the program's whole run. -/
import Derived.Test.YtelfmhiaafkimaaQuiet5
import Derived.Test.YtelfmhiaafkimaaApps
import Derived.Test.YtelfmhiaafkimaaIndex
namespace Go.Proofs.Ytelfmhiaafkimaa
open Go Go.RowKit Go.VC
set_option linter.unusedSimpArgs false
set_option linter.unusedVariables false
/-- All that a table holds. -/
def sum2 (n : Nat) (f : Nat → Nat → Int) : Int := sumN (fun i => sumN (f i) n) n
theorem sum2_turn {n a b : Nat} {f g : Nat → Nat → Int} {d : Int} (ha : a < n) (hb : b < n) (h : ∀ i j, g i j = f i j + if i = a ∧ j = b then d else 0) : sum2 n g = sum2 n f + d := by
  unfold sum2
  rw [sumN_add (f := fun i => sumN (f i) n) (j := 0) (d := d) (i := a) (fun x => ?_) (n := n), if_pos ha]
  by_cases e : x = a
  · rw [if_pos e, sumN_add (f := f x) (j := 0) (d := d) (i := b) (fun y => ?_) (n := n), if_pos hb]
    rw [h x y]
    by_cases e2 : y = b
    · rw [if_pos ⟨e, e2⟩, if_pos e2]
    · rw [if_neg (fun hh => e2 hh.2), if_neg e2]
  · rw [if_neg e, Int.add_zero]
    exact sumN_congr fun y hy => by rw [h x y, if_neg (fun hh => e hh.1), Int.add_zero]
theorem sum2_congr {n : Nat} {f g : Nat → Nat → Int} (h : ∀ i j, i < n → j < n → f i j = g i j) : sum2 n f = sum2 n g :=
  sumN_congr fun i hi => sumN_congr fun j hj => h i j hi hj
theorem sumN_le {f : Nat → Int} {T : Int} (h : ∀ j, f j ≤ T) : ∀ n : Nat, sumN f n ≤ n * T
  | 0 => by simp [sumN]
  | n + 1 => by
    unfold sumN
    have h1 := sumN_le h n
    have h2 := h n
    have : ((n + 1 : Nat) : Int) * T = n * T + T := by rw [Int.natCast_add, Int.add_mul]; simp
    omega
theorem sum2_bound {n : Nat} {T : Nat} {f : Nat → Nat → Int} (hn : n ≤ 6) (h : ∀ i j, 0 ≤ f i j ∧ f i j ≤ T) : 0 ≤ sum2 n f ∧ sum2 n f ≤ 36 * T := by
  unfold sum2
  have h1 : ∀ i, 0 ≤ sumN (f i) n ∧ sumN (f i) n ≤ 6 * T := fun i => ⟨sumN_nonneg (fun j => (h i j).1) n, by
    refine Int.le_trans (sumN_le (fun j => (h i j).2) n) ?_
    exact Int.mul_le_mul_of_nonneg_right (by omega) (by omega)⟩
  refine ⟨sumN_nonneg (fun i => (h1 i).1) n, Int.le_trans (sumN_le (fun i => (h1 i).2) n) ?_⟩
  have : (n : Int) * (6 * T) ≤ 6 * (6 * T) := Int.mul_le_mul_of_nonneg_right (by omega) (by omega)
  omega
open Classical in
/-- What is left of a table. -/
noncomputable def leftS (n : Nat) (f : Nat → Nat → Nat) (left : Int × Int → Prop) : Int := sum2 n fun i j => if left ((i : Int), (j : Int)) then (f i j : Int) else 0
theorem leftS_take {n a b : Nat} {f : Nat → Nat → Nat} {left : Int × Int → Prop} (ha : a < n) (hb : b < n) (h : left ((a : Int), (b : Int))) :
    leftS n f left = leftS n f (fun y => left y ∧ y ≠ ((a : Int), (b : Int))) + f a b := by
  unfold leftS
  refine sum2_turn ha hb fun i j => ?_
  by_cases e : i = a ∧ j = b
  · obtain ⟨rfl, rfl⟩ := e
    rw [if_pos h, if_neg (fun hh => hh.2 rfl), if_pos ⟨rfl, rfl⟩, Int.zero_add]
  · rw [if_neg e, Int.add_zero]
    have hne : ((i : Int), (j : Int)) ≠ ((a : Int), (b : Int)) := fun hh => e ⟨by have := congrArg Prod.fst hh; simp at this; omega, by have := congrArg Prod.snd hh; simp at this; omega⟩
    by_cases h2 : left ((i : Int), (j : Int))
    · rw [if_pos h2, if_pos ⟨h2, hne⟩]
    · rw [if_neg h2, if_neg (fun hh => h2 hh.1)]
theorem leftS_none {n : Nat} {f : Nat → Nat → Nat} {left : Int × Int → Prop} (h : ∀ i j : Nat, i < n → j < n → ¬ left ((i : Int), (j : Int))) : leftS n f left = 0 := by
  unfold leftS
  rw [sum2_congr (g := fun _ _ => 0) fun i j hi hj => if_neg (h i j hi hj)]
  unfold sum2
  have h0 : ∀ m, sumN (fun _ => 0) m = 0 := fun m => by induction m with
    | zero => rfl
    | succ m ih => unfold sumN; rw [ih]; rfl
  rw [sumN_congr (g := fun _ => 0) fun j _ => h0 n, h0]
theorem leftS_all {n : Nat} {f : Nat → Nat → Nat} {M : Int × Int → Option Value} (h : MR n f M) : leftS n f (fun x => (M x).isSome = true) = sum2 n fun i j => (f i j : Int) := by
  unfold leftS
  refine sum2_congr fun i j hi hj => ?_
  by_cases e : (M ((i : Int), (j : Int))).isSome = true
  · rw [if_pos e]
  · rw [if_neg e]
    have := h.val i j hi hj
    rw [Option.not_isSome_iff_eq_none.1 e] at this
    have h3 : (Value.int .i64 0) = .int .i64 (f i j : Int) := this
    injection h3 with _ h4
theorem leftS_bound {n T : Nat} {f : Nat → Nat → Nat} {left : Int × Int → Prop} (hn : n ≤ 6) (h : ∀ i j, f i j ≤ T) : 0 ≤ leftS n f left ∧ leftS n f left ≤ 36 * T := by
  unfold leftS
  refine sum2_bound hn fun i j => ?_
  have := h i j
  split
  · omega
  · omega
noncomputable abbrev qcodes (n : Nat) (f : Nat → CalmC) (k : Nat) : List Value := (List.range k).map fun i => Value.int .i64 (qcode n f i)
theorem qcodes_succ (n : Nat) (f : Nat → CalmC) (k : Nat) : qcodes n f (k + 1) = qcodes n f k ++ [.int .i64 (qstep n (f k) (qst n f k)).1] := by
  unfold qcodes; rw [List.range_succ, List.map_append]; rfl
abbrev worksL (s : QS) (k : Nat) : List Value := (List.range k).map fun i => Value.bool (s.pr i).works
abbrev boundL (s : QS) (k : Nat) : List Value := (List.range k).map fun i => Value.bool (s.pr i).bound
theorem worksL_succ (s : QS) (k : Nat) : worksL s (k + 1) = worksL s k ++ [.bool (s.pr k).works] := by unfold worksL; rw [List.range_succ, List.map_append]; rfl
theorem boundL_succ (s : QS) (k : Nat) : boundL s (k + 1) = boundL s k ++ [.bool (s.pr k).bound] := by unfold boundL; rw [List.range_succ, List.map_append]; rfl
/-- What is on its way. -/
def away (n : Nat) (s : QS) : Int := (sum2 n fun i j => (s.ca i j : Int)) + sum2 n fun i j => (s.an i j : Int)
/-- What a script comes to: codes, who works, who is bound, how much is on its way, whether all is done. -/
def QuietQ (n k : Nat) (codes : List Int) (s : QS) (v : Value) (w : World) : Prop :=
  ∃ A0 c0 A1 c1 A2 c2, v = .agg #[.slice A0 k c0, .slice A1 n c1, .slice A2 n c2, .int .i64 (away n s), .bool s.done] ∧ codes.length = k ∧ Rd w A0 (codes.map (Value.int .i64)) ∧ Rd w A1 (worksL s n) ∧ Rd w A2 (boundL s n)
theorem QuietQ.below {n k : Nat} {codes : List Int} {s : QS} {v : Value} {w w' : World} (h : QuietQ n k codes s v w) (hB : Below w.heap.size w w') : QuietQ n k codes s v w' := by
  obtain ⟨A0, c0, A1, c1, A2, c2, h0, h1, h2, h3, h4⟩ := h
  exact ⟨A0, c0, A1, c1, A2, c2, h0, h1, h2.below hB, h3.below hB, h4.below hB⟩
section
variable {w : World}

set_option maxRecDepth 8000 in
set_option maxHeartbeats 8000000 in
theorem quiet_any (A : Option Addr) (n len cap : Nat) (g : Nat → CalmC) (w : World) (hr : RdT w A len 3 (fun i => calmL (g i))) (h1 : 1 ≤ n) (hn : n ≤ 6) (hlen : len ≤ 120) :
    Calls Try.prog 20 #[.int .i64 n, .slice A len cap] w fun e w' => ∃ v, e = .returned (.tuple #[v, .int .i64 0]) ∧ QuietQ n len ((List.range len).map (qcode n g)) (qst n g len) v w' ∧ Below w.heap.size w w' := by
  have e1 : ((n : Int) < 1) = False := eq_false (by omega)
  have e2 : ((6 : Int) < n) = False := eq_false (by omega)
  have e3 : ((120 : Int) < len) = False := eq_false (by omega)
  have hB0 : Below w.heap.size w (w.alloc (.cells #[nilS, nilS, nilS, .int .i64 0, .bool false] 47)) := (Below.refl _ _).alloc (Nat.le_refl _) _
  have hH0 := (Hp.nil (B := w.heap.size) (Nat.le_refl _)).st_add (o := oBox w.heap.size [nilS, nilS, nilS, .int .i64 0, .bool false]) hB0 (Box.new w _ _) (fun g hg => by cases hg; exact Nat.le_refl _)
  replace hH0 := hH0.hp
  have hz0 : (w.alloc (.cells #[nilS, nilS, nilS, .int .i64 0, .bool false] 47)).heap.size = w.heap.size + 1 := by simp
  refine calls_vc (rs := [.cell 4 47, .tmp 5]) Fa.mix Try.func20 rfl Try.ntmps20 rfl (by kernel_rfl) (Nat.le_of_ble_eq_true rfl) ?_
  (repeat rw [vc_seq]); refine vc_plain _ fun Q hQ => ?_; simp -dsimp only [Fa.F20, e1, e2, e3, VC.Now, VC.vc_skip, VC.vc_ret, VC.vc_exit, VC.vc_block, VC.vc_cond, VC.vc_region, VC.lib, VC.mapN_drewN, VC.mapB_drewN, VC.regQ, VC.loopK, VC.reg, VC.opP, VC.opS, VC.opZ, VC.nomulB, VC.pv, VC.thenF, VC.blkF, VC.retF, VC.resV, VC.oneV, VC.evo, VC.bin, VC.binI, VC.cmpI, VC.arithI, VC.ldv, VC.slv, VC.pickP, VC.holds, VC.chainOf, VC.look, VC.junk, VC.put, VC.eff, VC.callee, VC.pureB, VC.rdK, VC.rdKs, VC.okKs, VC.eqKs, VC.fillL, VC.putL, VC.stW, VC.stOK, VC.mixF, VC.setAll, Nat.reduceAdd, Nat.reduceSub, Nat.reduceMul, if_true, if_false, ↓reduceIte, forall_const, implies_true, reduceCtorEq, ne_eq, Nat.reduceBNe, Nat.reduceBEq, IntKind.signed, Nat.reduceEqDiff, Nat.reduceLeDiff, Nat.reduceLT, eq_self, Int.reduceEq, Int.reduceLT, Int.reduceLE, Int.reduceAdd, Int.reduceSub, VC.regC_nil, VC.regC_cons, VC.regCK_eq, VC.callQ, VC.tailQ, VC.goCall, VC.chStep]
  change Q _ _ (w.alloc (.cells #[nilS, nilS, nilS, .int .i64 0, .bool false] 47))
  generalize w.alloc (.cells #[nilS, nilS, nilS, .int .i64 0, .bool false] 47) = wa at hH0 hB0 hz0 ⊢
  generalize hrb : w.heap.size = rb at hH0 hB0 hz0 ⊢
  subst hQ
  simp -dsimp only [Fa.F20, e1, e2, e3, VC.Now, VC.vc, VC.lib, VC.mapN_drewN, VC.mapB_drewN, VC.regQ, VC.loopK, VC.reg, VC.opP, VC.opS, VC.opZ, VC.nomulB, VC.pv, VC.thenF, VC.blkF, VC.retF, VC.resV, VC.oneV, VC.evo, VC.bin, VC.binI, VC.cmpI, VC.arithI, VC.ldv, VC.slv, VC.pickP, VC.holds, VC.chainOf, VC.look, VC.junk, VC.put, VC.eff, VC.callee, VC.pureB, VC.rdK, VC.rdKs, VC.okKs, VC.eqKs, VC.fillL, VC.putL, VC.mixF, VC.setAll, Nat.reduceAdd, Nat.reduceSub, Nat.reduceMul, if_true, if_false, ↓reduceIte, forall_const, implies_true, reduceCtorEq, ne_eq, Nat.reduceBNe, Nat.reduceBEq, IntKind.signed, Nat.reduceEqDiff, Nat.reduceLeDiff, Nat.reduceLT, eq_self, Int.reduceEq, Int.reduceLT, Int.reduceLE, Int.reduceAdd, Int.reduceSub, VC.regC_nil, VC.regC_cons, VC.regCK_eq, VC.callQ, VC.tailQ, VC.goCall, VC.chStep]
  intro u
  refine OPW_makeK (n := n) (base := 0) rfl Fa.apI124 rfl rfl rfl rfl (by omega) (by omega) (Nat.zero_le _) fun w4 ho4 hg4 => ?_
  have hB4 : Below wa.heap.size wa w4 := (Below.refl _ _).grown hg4 (Nat.le_refl _) fun k hk => by cases hk
  have hl4 : wa.heap.size < w4.heap.size := (ho4.lt (g := wa.heap.size) rfl).2
  have hH1 := (hH0.st_add (o := oRecs wa.heap.size n 4 (fun _ => prL ⟨false, false, 0, 0⟩)) hB4 (Recs.of_own (cs := fun _ => prL ⟨false, false, 0, 0⟩) ho4 hl4 (fun i hi j hj => made_at _ rfl hi hj)) (fun g hg => by cases hg; exact Nat.le_refl _)).hp
  have hBb := hB0.trans (hB4.mono (by omega))
  rw [VC.Now, VC.seqK_eq]
  generalize hgm : wa.heap.size = gc at hH1 ⊢
  simp -dsimp only [Fa.F20, e1, e2, e3, VC.Now, VC.vc, VC.lib, VC.mapN_drewN, VC.mapB_drewN, VC.regQ, VC.loopK, VC.reg, VC.opP, VC.opS, VC.opZ, VC.nomulB, VC.pv, VC.thenF, VC.blkF, VC.retF, VC.resV, VC.oneV, VC.evo, VC.bin, VC.binI, VC.cmpI, VC.arithI, VC.ldv, VC.slv, VC.pickP, VC.holds, VC.chainOf, VC.look, VC.junk, VC.put, VC.eff, VC.callee, VC.pureB, VC.rdK, VC.rdKs, VC.okKs, VC.eqKs, VC.fillL, VC.putL, VC.mixF, VC.setAll, Nat.reduceAdd, Nat.reduceSub, Nat.reduceMul, if_true, if_false, ↓reduceIte, forall_const, implies_true, reduceCtorEq, ne_eq, Nat.reduceBNe, Nat.reduceBEq, IntKind.signed, Nat.reduceEqDiff, Nat.reduceLeDiff, Nat.reduceLT, eq_self, Int.reduceEq, Int.reduceLT, Int.reduceLE, Int.reduceAdd, Int.reduceSub, VC.regC_nil, VC.regC_cons, VC.regCK_eq, VC.callQ, VC.tailQ, VC.goCall, VC.chStep]
  refine OPW_makeMapV EQ rfl fun w5 hw5 hM5 => ?_
  have hB5 : Below w4.heap.size w4 w5 := by rw [hw5]; exact (Below.refl _ w4).alloc (Nat.le_refl _) _
  have hz5 : w5.heap.size = w4.heap.size + 1 := by rw [hw5]; simp
  have hH2 := (hH1.st_add (o := oMap EQ w4.heap.size 0 (fun _ => none)) hB5 hM5 (fun g hg => by cases hg; exact Nat.le_refl _)).hp
  have hBc := hBb.trans (hB5.mono (by have := hB0.size; have := hB4.size; omega))
  rw [VC.Now, VC.seqK_eq]
  clear hw5 hM5
  generalize hmc : w4.heap.size = mc at hH2 hz5 ⊢
  simp -dsimp only [Fa.F20, e1, e2, e3, VC.Now, VC.vc, VC.lib, VC.mapN_drewN, VC.mapB_drewN, VC.regQ, VC.loopK, VC.reg, VC.opP, VC.opS, VC.opZ, VC.nomulB, VC.pv, VC.thenF, VC.blkF, VC.retF, VC.resV, VC.oneV, VC.evo, VC.bin, VC.binI, VC.cmpI, VC.arithI, VC.ldv, VC.slv, VC.pickP, VC.holds, VC.chainOf, VC.look, VC.junk, VC.put, VC.eff, VC.callee, VC.pureB, VC.rdK, VC.rdKs, VC.okKs, VC.eqKs, VC.fillL, VC.putL, VC.mixF, VC.setAll, Nat.reduceAdd, Nat.reduceSub, Nat.reduceMul, if_true, if_false, ↓reduceIte, forall_const, implies_true, reduceCtorEq, ne_eq, Nat.reduceBNe, Nat.reduceBEq, IntKind.signed, Nat.reduceEqDiff, Nat.reduceLeDiff, Nat.reduceLT, eq_self, Int.reduceEq, Int.reduceLT, Int.reduceLE, Int.reduceAdd, Int.reduceSub, VC.regC_nil, VC.regC_cons, VC.regCK_eq, VC.callQ, VC.tailQ, VC.goCall, VC.chStep]
  refine OPW_makeMapV EQ rfl fun w6 hw6 hM6 => ?_
  have hB6 : Below w5.heap.size w5 w6 := by rw [hw6]; exact (Below.refl _ w5).alloc (Nat.le_refl _) _
  have hz6 : w6.heap.size = w5.heap.size + 1 := by rw [hw6]; simp
  have hH3 := (hH2.st_add (o := oMap EQ w5.heap.size 0 (fun _ => none)) hB6 hM6 (fun g hg => by cases hg; exact Nat.le_refl _)).hp
  have hBd := hBc.trans (hB6.mono (by have := hB0.size; have := hB4.size; have := hB5.size; omega))
  rw [VC.Now, VC.seqK_eq]
  clear hw6 hM6
  generalize hma : w5.heap.size = ma at hH3 hz6 ⊢
  have hw6 : rb ≤ w6.heap.size := by have := hB0.size; have := hB4.size; have := hB5.size; have := hB6.size; omega
  simp -dsimp only [Fa.F20, e1, e2, e3, VC.Now, VC.vc, VC.lib, VC.mapN_drewN, VC.mapB_drewN, VC.regQ, VC.loopK, VC.reg, VC.opP, VC.opS, VC.opZ, VC.nomulB, VC.pv, VC.thenF, VC.blkF, VC.retF, VC.resV, VC.oneV, VC.evo, VC.bin, VC.binI, VC.cmpI, VC.arithI, VC.ldv, VC.slv, VC.pickP, VC.holds, VC.chainOf, VC.look, VC.junk, VC.put, VC.eff, VC.callee, VC.pureB, VC.rdK, VC.rdKs, VC.okKs, VC.eqKs, VC.fillL, VC.putL, VC.mixF, VC.setAll, Nat.reduceAdd, Nat.reduceSub, Nat.reduceMul, if_true, if_false, ↓reduceIte, forall_const, implies_true, reduceCtorEq, ne_eq, Nat.reduceBNe, Nat.reduceBEq, IntKind.signed, Nat.reduceEqDiff, Nat.reduceLeDiff, Nat.reduceLT, eq_self, Int.reduceEq, Int.reduceLT, Int.reduceLE, Int.reduceAdd, Int.reduceSub, VC.regC_nil, VC.regC_cons, VC.regCK_eq, VC.callQ, VC.tailQ, VC.goCall, VC.chStep]
  have hH4 := (hH3.st_add (o := oBox w6.heap.size [.slice (some ⟨gc, 0, none⟩) n n, .map (some mc), .map (some ma), .bool false]) ((Below.refl _ _).alloc (Nat.le_refl _) (.cells _ _)) (Box.new w6 _ 127) (fun g hg => by cases hg; exact Nat.le_refl _)).hp
  have hBe : Below rb w _ := hBd.trans (((Below.refl w6.heap.size w6).alloc (Nat.le_refl _) (.cells [.slice (some ⟨gc, 0, none⟩) n n, .map (some mc), .map (some ma), .bool false].toArray 127)).mono hw6)
  change _ ∧ stOK (w6.alloc (.cells [.slice (some ⟨gc, 0, none⟩) n n, .map (some mc), .map (some ma), .bool false].toArray 127)) _ _ _ ∧ WP _ _ _ _ _ _ ((stW (w6.alloc (.cells [.slice (some ⟨gc, 0, none⟩) n n, .map (some mc), .map (some ma), .bool false].toArray 127)) _ _ _).alloc _)
  generalize w6.alloc (.cells [.slice (some ⟨gc, 0, none⟩) n n, .map (some mc), .map (some ma), .bool false].toArray 127) = w7 at hH4 hBe ⊢
  generalize hwb : w6.heap.size = wb at hH4 ⊢
  obtain ⟨ok, st5⟩ := hH4.recAll (i := 3) (a := 0) (vs := [.bool true, .bool true, .int .i64 (-1), .int .i64 0]) rfl (by omega) rfl rfl (by intro v hv; simp at hv; rcases hv with rfl | rfl | rfl <;> rfl)
  rw [Nat.zero_mul] at ok st5
  refine ⟨by omega, ok, ?_⟩
  have hBf := hBe.trans (st5.below hH4)
  have hH5 := st5.hp
  generalize stW w7 ⟨gc, 0, none⟩ 0 [.bool true, .bool true, .int .i64 (-1), .int .i64 0] = w8 at hH5 hBf ⊢
  have hH6 := (hH5.st_add (o := oBox w8.heap.size [nilS, nilS, nilS, .int .i64 0, .bool false]) ((Below.refl _ _).alloc (Nat.le_refl _) (.cells _ _)) (Box.new w8 _ 47) (fun g hg => by cases hg; exact Nat.le_refl _)).hp
  have hBg : Below rb w _ := hBf.trans (((Below.refl w8.heap.size w8).alloc (Nat.le_refl _) (.cells [nilS, nilS, nilS, .int .i64 0, .bool false].toArray 47)).mono hH5.base)
  change WP _ _ _ _ _ _ (w8.alloc (.cells [nilS, nilS, nilS, .int .i64 0, .bool false].toArray 47))
  generalize w8.alloc (.cells [nilS, nilS, nilS, .int .i64 0, .bool false].toArray 47) = w9 at hH6 hBg ⊢
  generalize hb7 : w8.heap.size = b7 at hH6 ⊢
  have hH7 := (hH6.st_add (o := oOwn 24 1 0 nilS []) (Below.refl _ _) (OwnK.nil _ _ _ _) (fun g hg => by cases hg)).hp
  have hH8 := hH7.pick [0, 1, 6, 2, 5, 4, 3] (by decide) ([oOwn 24 1 0 nilS [], oBox b7 [nilS, nilS, nilS, .int .i64 0, .bool false], oBox rb [nilS, nilS, nilS, .int .i64 0, .bool false], oBox wb (worldQ n ⟨wb, gc, mc, ma⟩ false), oRecs gc n 4 (upd (fun _ => prL ⟨false, false, 0, 0⟩) 0 (prL ⟨true, true, -1, 0⟩)), oMap EQ mc 0 (fun _ => none), oMap EQ ma 0 (fun _ => none)]) rfl
  have hHs : Hp rb ([oOwn 24 1 0 nilS [], oBox b7 [nilS, nilS, nilS, .int .i64 0, .bool false], oBox rb [nilS, nilS, nilS, .int .i64 0, .bool false]] ++ QObs n ⟨wb, gc, mc, ma⟩ qs0 ⟨0, fun _ => none, 0, fun _ => none⟩) w9 := by
    have e : (upd (fun _ => prL ⟨false, false, 0, 0⟩) 0 (prL ⟨true, true, -1, 0⟩)) = fun i => prL (qs0.pr i) := by
      funext i
      show _ = prL (if i = 0 then ⟨true, true, -1, 0⟩ else ⟨false, false, 0, 0⟩)
      by_cases hi : i = 0
      · subst hi; rw [upd_same, if_pos rfl]
      · rw [upd_other hi, if_neg hi]
    rw [e] at hH8
    exact hH8
  clear hH0 hH1 hH2 hH3 hH4 hH5 hH6 hH7 hH8 hB0 hBb hBc hBd hBe hBf hB4 hB5 hB6 ho4 hg4 ok st5
  refine loop_slots Fa.mix [42] [9, 43, 44, 45, 46, 47, 48, 49, 50, 51, 52, 53, 54] (fun m vs wx => ∃ (k : Nat) (q : QM) (vc : Value), k + m = len ∧ vs = [.int .i64 k] ∧ q.kc ≤ 2 * k ∧ q.ka ≤ 2 * k ∧ QR n (qst n g k) q ∧ Below rb w wx ∧
      Hp rb ([oOwn 24 1 k vc (qcodes n g k), oBox b7 [vc, nilS, nilS, .int .i64 0, .bool false], oBox rb [nilS, nilS, nilS, .int .i64 0, .bool false]] ++ QObs n ⟨wb, gc, mc, ma⟩ (qst n g k) q) wx) len (by kernel_rfl) rfl
    ⟨0, ⟨0, fun _ => none, 0, fun _ => none⟩, nilS, by omega, rfl, Nat.le_refl _, Nat.le_refl _, ⟨MR.none n, MR.none n⟩, hBg, hHs⟩ ?_
  clear hHs hBg
  rintro m vs u2 wx ⟨k, q, vc, hkm, rfl, hkc, hka, hq, hBx, hH⟩
  have hok := qok (n := n) (by omega) g k
  have hqb := qb hn g k
  by_cases hk : k < len
  · obtain ⟨b, o, rfl, hb, hc⟩ := (hr.below (by rw [hrb]; exact hBx)) (by omega)
    have s0 := hc k hk 0 _ rfl
    have s1 := hc k hk 1 _ rfl
    have s2 := hc k hk 2 _ rfl
    simp only [Nat.add_zero] at s0
    have e7 : ((k : Int) < len) = True := eq_true (by omega)
    have hms : qst n g (k + 1) = (qstep n (g k) (qst n g k)).2 := rfl
    have hmc := qcodes_succ n g k
    generalize qst n g k = s at *
    generalize hgk : g k = c at *
    obtain ⟨Ac, cc, ec, _⟩ := id (hH.get 0 rfl : OwnK wx 0 24 1 k vc _)
    simp -dsimp only [Fa.F20, e7, rdI_of s0, s0, rdI_of s1, s1, rdI_of s2, s2, hb, Int.toNat_natCast, VC.Now, VC.vc, VC.lib, VC.mapN_drewN, VC.mapB_drewN, VC.regQ, VC.loopK, VC.reg, VC.opP, VC.opS, VC.opZ, VC.nomulB, VC.pv, VC.thenF, VC.blkF, VC.retF, VC.resV, VC.oneV, VC.evo, VC.bin, VC.binI, VC.cmpI, VC.arithI, VC.ldv, VC.slv, VC.pickP, VC.holds, VC.chainOf, VC.look, VC.junk, VC.put, VC.eff, VC.callee, VC.pureB, VC.rdK, VC.rdKs, VC.okKs, VC.eqKs, VC.fillL, VC.putL, VC.stW, VC.stOK, VC.mixF, VC.setAll, Nat.reduceAdd, Nat.reduceSub, Nat.reduceMul, if_true, if_false, ↓reduceIte, forall_const, implies_true, reduceCtorEq, ne_eq, Nat.reduceBNe, Nat.reduceBEq, IntKind.signed, Nat.reduceEqDiff, Nat.reduceLeDiff, Nat.reduceLT, eq_self, Int.reduceEq, Int.reduceLT, Int.reduceLE, Int.reduceAdd, Int.reduceSub, VC.regC_nil, VC.regC_cons, VC.regCK_eq, VC.callQ, VC.tailQ, VC.goCall, VC.chStep]
    refine ⟨by omega, ?_⟩
    have hsay : Box (wx.alloc (.cells (calmL c).toArray 131)) wx.heap.size (calmL c) := Box.new wx _ _
    have hBs : Below wx.heap.size wx (wx.alloc (.cells (calmL c).toArray 131)) := (Below.refl _ _).alloc (Nat.le_refl _) _
    change WP _ _ _ _ _ _ (wx.alloc (.cells (calmL c).toArray 131))
    generalize wx.alloc (.cells (calmL c).toArray 131) = wy at hsay hBs ⊢
    have hHy := (hH.below hBs).perm (List.perm_append_comm)
    have hBy : Below rb w wy := hBx.trans (hBs.mono hH.base)
    have nsay : ¬ foot (QObs n ⟨wb, gc, mc, ma⟩ s q) wx.heap.size := fun hf => by have := ((hH.perm (List.perm_append_comm)).left.foot_lt hf).2; omega
    have nsc : vc.ownBlock ≠ some wx.heap.size := fun hf => by have := (hH.lt 0 rfl hf).2; omega
    generalize wx.heap.size = sb at hsay hBs nsay nsc ⊢
    have hby := hsay.1
    have z0 := hsay.at (i := 0) rfl
    have z1 := hsay.at (i := 1) rfl
    have z2 := hsay.at (i := 2) rfl
    have hHz := hHy.perm (List.perm_append_comm)
    have y1 := (hHz.get 1 rfl : Box wy b7 _).at (i := 0) rfl
    rw [ec] at y1
    have hwl := (hHz.get 1 rfl : Box wy b7 _).1
    have n7 : ¬ foot (QObs n ⟨wb, gc, mc, ma⟩ s q) b7 := hHy.not_foot 1 rfl rfl
    have n7c : vc.ownBlock ≠ some b7 := fun hf => hHz.ne 0 1 (by decide) rfl rfl _ hf rfl
    have hHd := hHy.drewN 1
    have ag0 : Agree (fun j => foot (QObs n ⟨wb, gc, mc, ma⟩ s q) j ∨ vc.ownBlock = some j) wy (wy.drewN 1) := Agree.of_below (below_drewN (Below.refl _ wy) 1)
    refine WP_held 8 (fun j => foot (QObs n ⟨wb, gc, mc, ma⟩ s q) j ∨ vc.ownBlock = some j) (.take 0 (.take 1 (.take 2 (.take 3 (.one 4 (.one 5 (.one 6 (.take 7 (.one 8 .done))))))))) Fa.mix (by kernel_rfl) rfl ?_
    simp -dsimp only [VC.heldF_done, VC.heldF_last, VC.planF_done, VC.planF_take, VC.planF_one, VC.planF_two, VC.planK_eq, VC.heldF_take, VC.heldF_one, VC.heldF_two, VC.heldF_twoL, VC.heldK_eq, VC.okRd, Fa.F20, rdI_of z0, z0, rdI_of z1, z1, rdI_of z2, z2, rdSA_of y1, rdSN_of y1, rdSC_of y1, y1, hwl, VC.Now, VC.vc, VC.lib, VC.mapN_drewN, VC.mapB_drewN, VC.regQ, VC.loopK, VC.reg, VC.opP, VC.opS, VC.opZ, VC.nomulB, VC.pv, VC.thenF, VC.blkF, VC.retF, VC.resV, VC.oneV, VC.evo, VC.bin, VC.binI, VC.cmpI, VC.arithI, VC.ldv, VC.slv, VC.pickP, VC.holds, VC.chainOf, VC.look, VC.junk, VC.put, VC.eff, VC.callee, VC.pureB, VC.rdK, VC.rdKs, VC.okKs, VC.eqKs, VC.fillL, VC.putL, VC.stW, VC.stOK, VC.mixF, VC.setAll, Nat.reduceAdd, Nat.reduceSub, Nat.reduceMul, if_true, if_false, ↓reduceIte, forall_const, implies_true, reduceCtorEq, ne_eq, Nat.reduceBNe, Nat.reduceBEq, IntKind.signed, Nat.reduceEqDiff, Nat.reduceLeDiff, Nat.reduceLT, eq_self, Int.reduceEq, Int.reduceLT, Int.reduceLE, Int.reduceAdd, Int.reduceSub, VC.regC_nil, VC.regC_cons, VC.regCK_eq, VC.callQ, VC.tailQ, VC.goCall, VC.chStep]
    refine ⟨fun h => h.elim n7 n7c, ⟨hby, fun h => h.elim nsay nsc⟩, ?_⟩
    refine CALL_by (qstep_any hHd.left hq hok hqb (by omega) (by omega) hn (by omega) (by omega) c) fun e w4 hp => ⟨_, hp.1, ?_⟩
    obtain ⟨_, q', st4, hq', hkc', hka'⟩ := hp
    have st5 := (st4.part hHd).perm List.perm_append_comm List.perm_append_comm
    have ag4 := ag0.trans (st4.agree.mono fun j _ hj => Or.inl hj)
    have hH4 := st5.hp
    have y2 := (hH4.get 1 rfl : Box w4 b7 _).at (i := 0) rfl
    have hw4 := (hH4.get 1 rfl : Box w4 b7 _).1
    rw [ec] at y2
    simp -dsimp only [VC.heldF_done, VC.heldF_last, VC.planF_done, VC.planF_take, VC.planF_one, VC.planF_two, VC.planK_eq, VC.heldF_take, VC.heldF_one, VC.heldF_two, VC.heldF_twoL, VC.heldK_eq, VC.okRd, Fa.F20, rdSA_of y1, rdSN_of y1, rdSC_of y1, y1, hwl, hw4, rdSA_of y2, rdSN_of y2, rdSC_of y2, y2, VC.Now, VC.vc, VC.lib, VC.mapN_drewN, VC.mapB_drewN, VC.regQ, VC.loopK, VC.reg, VC.opP, VC.opS, VC.opZ, VC.nomulB, VC.pv, VC.thenF, VC.blkF, VC.retF, VC.resV, VC.oneV, VC.evo, VC.bin, VC.binI, VC.cmpI, VC.arithI, VC.ldv, VC.slv, VC.pickP, VC.holds, VC.chainOf, VC.look, VC.junk, VC.put, VC.eff, VC.callee, VC.pureB, VC.rdK, VC.rdKs, VC.okKs, VC.eqKs, VC.fillL, VC.putL, VC.stW, VC.stOK, VC.mixF, VC.setAll, Nat.reduceAdd, Nat.reduceSub, Nat.reduceMul, if_true, if_false, ↓reduceIte, forall_const, implies_true, reduceCtorEq, ne_eq, Nat.reduceBNe, Nat.reduceBEq, IntKind.signed, Nat.reduceEqDiff, Nat.reduceLeDiff, Nat.reduceLT, eq_self, Int.reduceEq, Int.reduceLT, Int.reduceLE, Int.reduceAdd, Int.reduceSub, VC.regC_nil, VC.regC_cons, VC.regCK_eq, VC.callQ, VC.tailQ, VC.goCall, VC.chStep]
    refine ⟨ag4, ag4.trans (Agree.of_below ((Below.refl _ _).alloc (Nat.le_refl _) _)), ?_⟩
    refine OPW_appK (v := vc) rfl Fa.apI33 (by rw [ec]; rfl) rfl rfl (by simp [Value.oneCell']) (hH4.get 0 rfl) (Nat.zero_le _) (by omega) (by decide) fun v5 w5 ho5 hg5 hst5 => ?_
    rw [← hmc] at ho5
    obtain ⟨⟨r1, r2⟩, st6⟩ := hH4.growField 1 0 rfl rfl (by decide) ho5 hg5 hst5 0 (by show 0 < 5; omega)
    obtain ⟨A5, c5, rfl, _⟩ := id ho5
    have hw6 : b7 < w5.heap.size := by simpa using (st6.hp.get 1 rfl : Box _ b7 _).1
    simp -dsimp only [VC.heldF_done, VC.heldF_last, VC.planF_done, VC.planF_take, VC.planF_one, VC.planF_two, VC.planK_eq, VC.heldF_take, VC.heldF_one, VC.heldF_two, VC.heldF_twoL, VC.heldK_eq, VC.okRd, Fa.F20, hw6, hw4, hwl, VC.Now, VC.vc, VC.lib, VC.mapN_drewN, VC.mapB_drewN, VC.regQ, VC.loopK, VC.reg, VC.opP, VC.opS, VC.opZ, VC.nomulB, VC.pv, VC.thenF, VC.blkF, VC.retF, VC.resV, VC.oneV, VC.evo, VC.bin, VC.binI, VC.cmpI, VC.arithI, VC.ldv, VC.slv, VC.pickP, VC.holds, VC.chainOf, VC.look, VC.junk, VC.put, VC.eff, VC.callee, VC.pureB, VC.rdK, VC.rdKs, VC.okKs, VC.eqKs, VC.fillL, VC.putL, VC.stW, VC.stOK, VC.mixF, VC.setAll, Nat.reduceAdd, Nat.reduceSub, Nat.reduceMul, if_true, if_false, ↓reduceIte, forall_const, implies_true, reduceCtorEq, ne_eq, Nat.reduceBNe, Nat.reduceBEq, IntKind.signed, Nat.reduceEqDiff, Nat.reduceLeDiff, Nat.reduceLT, eq_self, Int.reduceEq, Int.reduceLT, Int.reduceLE, Int.reduceAdd, Int.reduceSub, VC.regC_nil, VC.regC_cons, VC.regCK_eq, VC.callQ, VC.tailQ, VC.goCall, VC.chStep]
    have ag6 := ag4.trans (Agree.grown hg5 fun j hj => Or.inr hj)
    have hBw : Below rb w (w5.setCell ⟨b7, 0, none⟩ (.slice A5 (k + 1) c5)) := hBy.trans ((below_drewN (Below.refl rb wy) 1).trans ((st5.trans st6).below (hHd.perm List.perm_append_comm)))
    refine ⟨ag6, ⟨r1, r2⟩, fits_i64_nat (by omega), SAME.intro (by kernel_rfl), m - 1, by omega, k + 1, q', .slice A5 (k + 1) c5, by omega, rfl, by omega, by omega, by rw [hms]; exact hq', hBw, ?_⟩
    rw [hms]
    exact st6.hp
  · obtain rfl : k = len := by omega
    have e7 : ((k : Int) < k) = False := eq_false (by omega)
    unfold QuietQ
    have hcl : ((List.range k).map (qcode n g)).length = k := by simp
    have hce : qcodes n g k = ((List.range k).map (qcode n g)).map (Value.int .i64) := by unfold qcodes; rw [List.map_map]; rfl
    rw [hce] at hH
    generalize (List.range k).map (qcode n g) = codes at *
    generalize qst n g k = s at *
    have bx : Box wx wb (worldQ n ⟨wb, gc, mc, ma⟩ s.done) := hH.get 3 rfl
    have x0 := bx.at (i := 0) rfl
    have hwl := bx.1
    simp -dsimp only [Fa.F20, e7, rdSA_of x0, rdSN_of x0, rdSC_of x0, x0, hwl, VC.Now, VC.vc, VC.lib, VC.mapN_drewN, VC.mapB_drewN, VC.regQ, VC.loopK, VC.reg, VC.opP, VC.opS, VC.opZ, VC.nomulB, VC.pv, VC.thenF, VC.blkF, VC.retF, VC.resV, VC.oneV, VC.evo, VC.bin, VC.binI, VC.cmpI, VC.arithI, VC.ldv, VC.slv, VC.pickP, VC.holds, VC.chainOf, VC.look, VC.junk, VC.put, VC.eff, VC.callee, VC.pureB, VC.rdK, VC.rdKs, VC.okKs, VC.eqKs, VC.fillL, VC.putL, VC.mixF, VC.setAll, Nat.reduceAdd, Nat.reduceSub, Nat.reduceMul, if_true, if_false, ↓reduceIte, forall_const, implies_true, reduceCtorEq, ne_eq, Nat.reduceBNe, Nat.reduceBEq, IntKind.signed, Nat.reduceEqDiff, Nat.reduceLeDiff, Nat.reduceLT, eq_self, Int.reduceEq, Int.reduceLT, Int.reduceLE, Int.reduceAdd, Int.reduceSub, VC.regC_nil, VC.regC_cons, VC.regCK_eq, VC.callQ, VC.tailQ, VC.goCall, VC.chStep]
    have hHl := ((hH.st_add (o := oOwn 4 1 0 nilS []) (Below.refl _ _) (OwnK.nil _ _ _ _) (fun g hg => by cases hg)).hp.st_add (o := oOwn 4 1 0 nilS []) (Below.refl _ _) (OwnK.nil _ _ _ _) (fun g hg => by cases hg)).hp
    refine loop_slots Fa.mix [60] [11, 61, 62, 63, 64, 65, 66, 67, 68, 69, 70, 71, 72, 73, 74, 75, 76, 77, 78] (fun m vs wx => ∃ (j : Nat) (vw vb : Value), j + m = n ∧ vs = [.int .i64 j] ∧ Below rb w wx ∧
      Hp rb ([oOwn 4 1 j vw (worksL s j), oOwn 4 1 j vb (boundL s j)] ++ ([oOwn 24 1 k vc (codes.map (Value.int .i64)), oBox b7 [vc, vw, vb, .int .i64 0, .bool false], oBox rb [nilS, nilS, nilS, .int .i64 0, .bool false]] ++ QObs n ⟨wb, gc, mc, ma⟩ s q)) wx) n (by kernel_rfl) rfl
      ⟨0, nilS, nilS, by omega, rfl, hBx, hHl⟩ ?_
    clear hHl hH hBx bx x0 hwl
    rintro m2 vs u3 wx2 ⟨j, vw, vb, hjm, rfl, hBx, hH⟩
    by_cases hj : j < n
    · have e8 : ((j : Int) < n) = True := eq_true (by omega)
      have hR : Recs wx2 gc n 4 (fun i => prL (s.pr i)) := hH.get 6 rfl
      obtain ⟨Aw, cw, rfl, _⟩ := id (hH.get 0 rfl : OwnK wx2 0 4 1 j vw _)
      obtain ⟨Ab, cb, rfl, _⟩ := id (hH.get 1 rfl : OwnK wx2 0 4 1 j vb _)
      have t0 := hR.at hj (j := 0) (by omega) rfl
      have t1 := hR.at hj (j := 1) (by omega) rfl
      have t2 := hR.at hj (j := 2) (by omega) rfl
      have t3 := hR.at hj (j := 3) (by omega) rfl
      simp only [Nat.add_zero] at t0
      simp -dsimp only [Fa.F20, e8, rdB_of t0, t0, rdB_of t1, t1, rdI_of t2, t2, rdI_of t3, t3, Int.toNat_natCast, VC.Now, VC.vc, VC.lib, VC.mapN_drewN, VC.mapB_drewN, VC.regQ, VC.loopK, VC.reg, VC.opP, VC.opS, VC.opZ, VC.nomulB, VC.pv, VC.thenF, VC.blkF, VC.retF, VC.resV, VC.oneV, VC.evo, VC.bin, VC.binI, VC.cmpI, VC.arithI, VC.ldv, VC.slv, VC.pickP, VC.holds, VC.chainOf, VC.look, VC.junk, VC.put, VC.eff, VC.callee, VC.pureB, VC.rdK, VC.rdKs, VC.okKs, VC.eqKs, VC.fillL, VC.putL, VC.stW, VC.stOK, VC.mixF, VC.setAll, Nat.reduceAdd, Nat.reduceSub, Nat.reduceMul, if_true, if_false, ↓reduceIte, forall_const, implies_true, reduceCtorEq, ne_eq, Nat.reduceBNe, Nat.reduceBEq, IntKind.signed, Nat.reduceEqDiff, Nat.reduceLeDiff, Nat.reduceLT, eq_self, Int.reduceEq, Int.reduceLT, Int.reduceLE, Int.reduceAdd, Int.reduceSub, VC.regC_nil, VC.regC_cons, VC.regCK_eq, VC.callQ, VC.tailQ, VC.goCall, VC.chStep]
      refine ⟨by omega, ?_⟩
      have hsay : Box (wx2.alloc (.cells (prL (s.pr j)).toArray 129)) wx2.heap.size (prL (s.pr j)) := Box.new wx2 _ _
      have hBs : Below wx2.heap.size wx2 (wx2.alloc (.cells (prL (s.pr j)).toArray 129)) := (Below.refl _ _).alloc (Nat.le_refl _) _
      change WP _ _ _ _ _ _ (wx2.alloc (.cells (prL (s.pr j)).toArray 129))
      generalize wx2.alloc (.cells (prL (s.pr j)).toArray 129) = wy at hsay hBs ⊢
      have hHy := hH.below hBs
      have hBy : Below rb w wy := hBx.trans (hBs.mono hH.base)
      have nw : (Value.slice Aw j cw).ownBlock ≠ some wx2.heap.size := fun hf => by have := (hH.lt 0 rfl hf).2; omega
      have nb : (Value.slice Ab j cb).ownBlock ≠ some wx2.heap.size := fun hf => by have := (hH.lt 1 rfl hf).2; omega
      generalize wx2.heap.size = sb at hsay hBs nw nb ⊢
      have hby := hsay.1
      have z0 := hsay.at (i := 0) rfl
      have z1 := hsay.at (i := 1) rfl
      have bx7 : Box wy b7 _ := hHy.get 3 rfl
      have y1 := bx7.at (i := 1) rfl
      have y2 := bx7.at (i := 2) rfl
      have hwl := bx7.1
      have n7w : (Value.slice Aw j cw).ownBlock ≠ some b7 := fun hf => hHy.ne 0 3 (by decide) rfl rfl _ hf rfl
      have n7b : (Value.slice Ab j cb).ownBlock ≠ some b7 := fun hf => hHy.ne 1 3 (by decide) rfl rfl _ hf rfl
      have hHd := hHy.drewN 1
      refine WP_held 13 (fun bk => (Value.slice Aw j cw).ownBlock = some bk ∨ (Value.slice Ab j cb).ownBlock = some bk) (.take 0 (.take 1 (.take 2 (.take 3 (.take 6 (.take 7 (.any [4,5,10,11,8,9,12] (.last 13 (.take 14 (.one 15 .done)))))))))) Fa.mix (by kernel_rfl) rfl ?_
      simp -dsimp only [VC.heldF_done, VC.heldF_last, VC.planF_done, VC.planF_take, VC.planF_one, VC.planF_two, VC.planK_eq, VC.heldF_take, VC.heldF_one, VC.heldF_two, VC.heldF_twoL, VC.heldK_eq, VC.okRd, Fa.F20, rdB_of z0, z0, rdB_of z1, z1, rdSA_of y1, rdSN_of y1, rdSC_of y1, y1, rdSA_of y2, rdSN_of y2, rdSC_of y2, y2, hwl, VC.Now, VC.vc, VC.lib, VC.mapN_drewN, VC.mapB_drewN, VC.regQ, VC.loopK, VC.reg, VC.opP, VC.opS, VC.opZ, VC.nomulB, VC.pv, VC.thenF, VC.blkF, VC.retF, VC.resV, VC.oneV, VC.evo, VC.bin, VC.binI, VC.cmpI, VC.arithI, VC.ldv, VC.slv, VC.pickP, VC.holds, VC.chainOf, VC.look, VC.junk, VC.put, VC.eff, VC.callee, VC.pureB, VC.rdK, VC.rdKs, VC.okKs, VC.eqKs, VC.fillL, VC.putL, VC.stW, VC.stOK, VC.mixF, VC.setAll, Nat.reduceAdd, Nat.reduceSub, Nat.reduceMul, if_true, if_false, ↓reduceIte, forall_const, implies_true, reduceCtorEq, ne_eq, Nat.reduceBNe, Nat.reduceBEq, IntKind.signed, Nat.reduceEqDiff, Nat.reduceLeDiff, Nat.reduceLT, eq_self, Int.reduceEq, Int.reduceLT, Int.reduceLE, Int.reduceAdd, Int.reduceSub, VC.regC_nil, VC.regC_cons, VC.regCK_eq, VC.callQ, VC.tailQ, VC.goCall, VC.chStep]
      refine ⟨fun h => h.elim n7w n7b, ⟨hby, fun h => h.elim nw nb⟩, fun h => h.elim n7w n7b, ?_⟩
      refine apps_two (D := [68, 69, 74, 75, 72, 73, 76]) (fun | 0 => ⟨4, 5, 68, 69, 67, 65, 45, 4, j, .slice Aw j cw, .bool (s.pr j).works, worksL s j⟩ | _ => ⟨10, 11, 74, 75, 73, 71, 45, 4, j, .slice Ab j cb, .bool (s.pr j).bound, boundL s j⟩) rb [⟨8, 72, .pointer (some ⟨sb, 1, none⟩)⟩, ⟨9, 73, .bool (s.pr j).bound⟩, ⟨12, 76, .pointer (some ⟨b7, 1, none⟩)⟩]
        rfl rfl rfl (ApSep.two (by simp) (by simp)) ?_ ?_ ?_ ?_ hHd ?_
      · refine all_two ⟨⟨_, .mk0 rfl rfl rfl, Or.inl ⟨rfl, by simp [apD]⟩⟩, .mk1 rfl rfl rfl (by first | rfl | kernel_rfl), Fa.elo45, ⟨_, Fa.zco4⟩, Fa.kOf45, ⟨_, _, Fa.apI45, by decide⟩, rfl, rfl, rfl, Nat.le_of_ble_eq_true rfl, Nat.le_of_ble_eq_true rfl, by show j + 1 ≤ 100000; omega, by simp [apD]⟩
          ⟨⟨_, .mk1 (j := 9) rfl rfl rfl (by first | rfl | kernel_rfl), Or.inr ⟨_, List.mem_cons_of_mem _ (List.mem_cons_self ..), rfl, rfl, List.mem_singleton.2 rfl⟩⟩, .mk1 rfl rfl rfl (by first | rfl | kernel_rfl), Fa.elo45, ⟨_, Fa.zco4⟩, Fa.kOf45, ⟨_, _, Fa.apI45, by decide⟩, rfl, rfl, rfl, Nat.le_of_ble_eq_true rfl, Nat.le_of_ble_eq_true rfl, by show j + 1 ≤ 100000; omega, by simp [apD]⟩
      · intro x hx
        simp only [List.mem_cons, List.not_mem_nil, or_false] at hx
        rcases hx with rfl | rfl | rfl
        · exact ⟨.field _ _ _ _ _ _ _ _ _ (.mk0 rfl rfl rfl) Fa.fldo129_1 (by decide) (Or.inl ⟨rfl, by simp [apD]⟩) rfl (Nat.le_of_ble_eq_true rfl), by simp [apG], by simp [apD]⟩
        · exact ⟨.load _ _ sb 1 _ (.mk1 (j := 8) rfl rfl rfl (by first | rfl | kernel_rfl)) Fa.isAggB4 Fa.knownB4 (Or.inr ⟨_, List.mem_cons_self .., rfl, rfl, List.mem_singleton.2 rfl⟩) z1 (fun w1 hc => by rw [Fa.kOf4]; exact congrArg _ (rdB_of hc)) (fun ⟨a, ha, hk2⟩ => by
            have : a = 0 ∨ a = 1 := by omega
            rcases this with rfl | rfl
            · exact nw hk2
            · exact nb hk2) hby (Nat.le_of_ble_eq_true rfl), by simp [apG], by simp [apD]⟩
        · exact ⟨.field _ _ _ _ _ _ _ _ _ (.mk0 rfl rfl rfl) Fa.fldo47_1 (by decide) (Or.inl ⟨rfl, by simp [apD]⟩) rfl (Nat.le_of_ble_eq_true rfl), by simp [apG], by simp [apD]⟩
      · intro x hx y hy
        simp only [List.mem_cons, List.not_mem_nil, or_false] at hx hy
        rcases hx with rfl | rfl | rfl <;> rcases hy with rfl | rfl | rfl <;> simp
      · intro w' hA
        exact ((Agree.refl _ _).drewN 1).trans (hA.mono fun bk _ hX => by
          obtain ⟨a, ha, hk2⟩ := hX
          have : a = 0 ∨ a = 1 := by omega
          rcases this with rfl | rfl
          · exact Or.inl hk2
          · exact Or.inr hk2)
      · intro g2 w' A5 c5 A6 c6 e5 e6 hx2 hH2 hA2
        have e5 : g2 69 = .slice A5 (j + 1) c5 := e5
        have e6 : g2 75 = .slice A6 (j + 1) c6 := e6
        have e7 : g2 76 = .pointer (some ⟨b7, 1, none⟩) := hx2 ⟨12, 76, .pointer (some ⟨b7, 1, none⟩)⟩ (.tail _ (.tail _ (.head _)))
        have hHe : Hp rb ([oOwn 4 1 (j + 1) (g2 69) (worksL s j ++ [.bool (s.pr j).works]), oOwn 4 1 (j + 1) (g2 75) (boundL s j ++ [.bool (s.pr j).bound])] ++ ([oOwn 24 1 k vc (codes.map (Value.int .i64)), oBox b7 [vc, .slice Aw j cw, .slice Ab j cb, .int .i64 0, .bool false], oBox rb [nilS, nilS, nilS, .int .i64 0, .bool false]] ++ QObs n ⟨wb, gc, mc, ma⟩ s q)) w' := hH2
        rw [e5, e6, ← worksL_succ, ← boundL_succ] at hHe
        have st1 := hHe.setBox 3 rfl 1 (.slice A5 (j + 1) c5)
        have st2 := st1.hp.setBox 3 rfl 2 (.slice A6 (j + 1) c6)
        have f7 : Box w' b7 _ := hHe.get 3 rfl
        have f7' : Box (w'.setCell ⟨b7, 1, none⟩ (.slice A5 (j + 1) c5)) b7 _ := st1.hp.get 3 rfl
        have r1 : (w'.cell? ⟨b7, 1, none⟩).isSome = true ∧ w'.frozen? ⟨b7, 1, none⟩ = false := ⟨by rw [f7.at (i := 1) rfl]; rfl, f7.soft (by show 1 < 5; omega)⟩
        have r2 : ((w'.setCell ⟨b7, 1, none⟩ (.slice A5 (j + 1) c5)).cell? ⟨b7, 2, none⟩).isSome = true ∧ (w'.setCell ⟨b7, 1, none⟩ (.slice A5 (j + 1) c5)).frozen? ⟨b7, 2, none⟩ = false := ⟨by rw [f7'.at (i := 2) rfl]; rfl, f7'.soft (by show 2 < 5; omega)⟩
        have hl7 := f7.1
        have hl7' := f7'.1
        simp -dsimp only [VC.heldF_done, VC.heldF_last, VC.planF_done, VC.planF_take, VC.planF_one, VC.planF_two, VC.planK_eq, VC.heldF_take, VC.heldF_one, VC.heldF_two, VC.heldF_twoL, VC.heldK_eq, VC.okRd, Fa.F20, VC.setD, e5, e6, e7, hl7, hl7', VC.Now, VC.vc, VC.lib, VC.mapN_drewN, VC.mapB_drewN, VC.regQ, VC.loopK, VC.reg, VC.opP, VC.opS, VC.opZ, VC.nomulB, VC.pv, VC.thenF, VC.blkF, VC.retF, VC.resV, VC.oneV, VC.evo, VC.bin, VC.binI, VC.cmpI, VC.arithI, VC.ldv, VC.slv, VC.pickP, VC.holds, VC.chainOf, VC.look, VC.junk, VC.put, VC.eff, VC.callee, VC.pureB, VC.rdK, VC.rdKs, VC.okKs, VC.eqKs, VC.fillL, VC.putL, VC.stW, VC.stOK, VC.mixF, VC.setAll, Nat.reduceAdd, Nat.reduceSub, Nat.reduceMul, if_true, if_false, ↓reduceIte, forall_const, implies_true, reduceCtorEq, ne_eq, Nat.reduceBNe, Nat.reduceBEq, IntKind.signed, Nat.reduceEqDiff, Nat.reduceLeDiff, Nat.reduceLT, eq_self, Int.reduceEq, Int.reduceLT, Int.reduceLE, Int.reduceAdd, Int.reduceSub, VC.regC_nil, VC.regC_cons, VC.regCK_eq, VC.callQ, VC.tailQ, VC.goCall, VC.chStep]
        have hAll : Agree (fun i => rb ≤ i) wy w' := ((Agree.refl _ wy).drewN 1).trans (hA2.mono fun i _ hX => by
          obtain ⟨a, ha, hi⟩ := hX
          have : a = 0 ∨ a = 1 := by omega
          rcases this with rfl | rfl
          · exact (hHd.lt 0 rfl hi).1
          · exact (hHd.lt 1 rfl hi).1)
        have hBe : Below rb w w' := hAll.to_below hBy hHy.base fun i hi => hi
        refine ⟨r1, r2, fits_i64_nat (by omega), SAME.intro (by kernel_rfl), m2 - 1, by omega, j + 1, .slice A5 (j + 1) c5, .slice A6 (j + 1) c6, by omega, rfl, hBe.trans ((st1.trans st2).below hHe), st2.hp⟩
    · obtain rfl : j = n := by omega
      have e8 : ((j : Int) < j) = False := eq_false (by omega)
      have bx : Box wx2 wb (worldQ j ⟨wb, gc, mc, ma⟩ s.done) := hH.get 5 rfl
      have x1 := bx.at (i := 1) rfl
      have x2 := bx.at (i := 2) rfl
      have hwl := bx.1
      simp -dsimp only [Fa.F20, e8, rdM_of x1, x1, rdM_of x2, x2, hwl, VC.Now, VC.vc, VC.lib, VC.mapN_drewN, VC.mapB_drewN, VC.regQ, VC.loopK, VC.reg, VC.opP, VC.opS, VC.opZ, VC.nomulB, VC.pv, VC.thenF, VC.blkF, VC.retF, VC.resV, VC.oneV, VC.evo, VC.bin, VC.binI, VC.cmpI, VC.arithI, VC.ldv, VC.slv, VC.pickP, VC.holds, VC.chainOf, VC.look, VC.junk, VC.put, VC.eff, VC.callee, VC.pureB, VC.rdK, VC.rdKs, VC.okKs, VC.eqKs, VC.fillL, VC.putL, VC.mixF, VC.setAll, Nat.reduceAdd, Nat.reduceSub, Nat.reduceMul, if_true, if_false, ↓reduceIte, forall_const, implies_true, reduceCtorEq, ne_eq, Nat.reduceBNe, Nat.reduceBEq, IntKind.signed, Nat.reduceEqDiff, Nat.reduceLeDiff, Nat.reduceLT, eq_self, Int.reduceEq, Int.reduceLT, Int.reduceLE, Int.reduceAdd, Int.reduceSub, VC.regC_nil, VC.regC_cons, VC.regCK_eq, VC.callQ, VC.tailQ, VC.goCall, VC.chStep]
      intro m3
      have hBd := hBx.trans (below_drewN (Below.refl rb wx2) m3)
      have hHd := hH.drewN m3
      have hca := sum2_bound (n := j) (T := k) (f := fun a b => (s.ca a b : Int)) hn fun a b => ⟨by omega, by have := hqb.ca a b; omega⟩
      have han := sum2_bound (n := j) (T := 2 * k) (f := fun a b => (s.an a b : Int)) hn fun a b => ⟨by omega, by have := hqb.an a b; omega⟩
      have haw : away j s = (sum2 j fun a b => (s.ca a b : Int)) + sum2 j fun a b => (s.an a b : Int) := rfl
      have hlca := leftS_all hq.ca
      have hlan := leftS_all hq.an
      generalize hS1 : (sum2 j fun a b => (s.ca a b : Int)) = S1 at *
      generalize hS2 : (sum2 j fun a b => (s.an a b : Int)) = S2 at *
      refine loop_slots Fa.mix [88] [13, 15, 89, 90, 91, 92, 93, 94, 95, 96, 97, 98, 99, 100, 101, 102] (fun m vs wx => ∃ i : Nat, i + m = 2 ∧ vs = [.int .i64 i] ∧ Below rb w wx ∧
        Hp rb ([oOwn 4 1 j vw (worksL s j), oOwn 4 1 j vb (boundL s j)] ++ ([oOwn 24 1 k vc (codes.map (Value.int .i64)), oBox b7 [vc, vw, vb, .int .i64 (if i = 0 then 0 else if i = 1 then S1 else S1 + S2), .bool false], oBox rb [nilS, nilS, nilS, .int .i64 0, .bool false]] ++ QObs j ⟨wb, gc, mc, ma⟩ s q)) wx) 2 (by kernel_rfl) rfl
        ⟨0, by omega, rfl, hBd, hHd⟩ ?_
      clear hH hHd hBd hBx
      rintro m4 vs u4 wx3 ⟨i, him, rfl, hBx, hH⟩
      rcases (show i = 0 ∨ i = 1 ∨ i = 2 by omega) with rfl | rfl | rfl
      · have z9 : ((0 : Nat) : Int) = 0 := rfl
        have z8 : ((0 : Int) < 2) = True := eq_true (by decide)
        simp -dsimp only [Fa.F20, z9, z8, VC.Now, VC.vc, VC.lib, VC.mapN_drewN, VC.mapB_drewN, VC.regQ, VC.loopK, VC.reg, VC.opP, VC.opS, VC.opZ, VC.nomulB, VC.pv, VC.thenF, VC.blkF, VC.retF, VC.resV, VC.oneV, VC.evo, VC.bin, VC.binI, VC.cmpI, VC.arithI, VC.ldv, VC.slv, VC.pickP, VC.holds, VC.chainOf, VC.look, VC.junk, VC.put, VC.eff, VC.callee, VC.pureB, VC.rdK, VC.rdKs, VC.okKs, VC.eqKs, VC.fillL, VC.putL, VC.mixF, VC.setAll, Nat.reduceAdd, Nat.reduceSub, Nat.reduceMul, if_true, if_false, ↓reduceIte, forall_const, implies_true, reduceCtorEq, ne_eq, Nat.reduceBNe, Nat.reduceBEq, IntKind.signed, Nat.reduceEqDiff, Nat.reduceLeDiff, Nat.reduceLT, eq_self, Int.reduceEq, Int.reduceLT, Int.reduceLE, Int.reduceAdd, Int.reduceSub, VC.regC_nil, VC.regC_cons, VC.regCK_eq, VC.callQ, VC.tailQ, VC.goCall, VC.chStep]
        refine OPW_index rfl (by kernel_rfl : arrO Try.prog 133 = some (2, 125)) (by kernel_rfl) (by kernel_rfl) (by kernel_rfl) rfl (i := 0) rfl (by decide) rfl ?_
        rw [VC.Now, VC.seqK_eq]
        simp -dsimp only [Fa.F20, VC.Now, VC.vc, VC.lib, VC.mapN_drewN, VC.mapB_drewN, VC.regQ, VC.loopK, VC.reg, VC.opP, VC.opS, VC.opZ, VC.nomulB, VC.pv, VC.thenF, VC.blkF, VC.retF, VC.resV, VC.oneV, VC.evo, VC.bin, VC.binI, VC.cmpI, VC.arithI, VC.ldv, VC.slv, VC.pickP, VC.holds, VC.chainOf, VC.look, VC.junk, VC.put, VC.eff, VC.callee, VC.pureB, VC.rdK, VC.rdKs, VC.okKs, VC.eqKs, VC.fillL, VC.putL, VC.stW, VC.stOK, VC.mixF, VC.setAll, Nat.reduceAdd, Nat.reduceSub, Nat.reduceMul, if_true, if_false, ↓reduceIte, forall_const, implies_true, reduceCtorEq, ne_eq, Nat.reduceBNe, Nat.reduceBEq, IntKind.signed, Nat.reduceEqDiff, Nat.reduceLeDiff, Nat.reduceLT, eq_self, Int.reduceEq, Int.reduceLT, Int.reduceLE, Int.reduceAdd, Int.reduceSub, VC.regC_nil, VC.regC_cons, VC.regCK_eq, VC.callQ, VC.tailQ, VC.goCall, VC.chStep]
        have hM : MapV Try.prog EQ wx3 mc q.kc q.Mc := hH.get 7 rfl
        refine OPW_rangeV hM rfl (by kernel_rfl) rfl fun w1 hR hB1 hs1 => ?_
        simp -dsimp only [Fa.F20, VC.Now, VC.vc, VC.lib, VC.mapN_drewN, VC.mapB_drewN, VC.regQ, VC.loopK, VC.reg, VC.opP, VC.opS, VC.opZ, VC.nomulB, VC.pv, VC.thenF, VC.blkF, VC.retF, VC.resV, VC.oneV, VC.evo, VC.bin, VC.binI, VC.cmpI, VC.arithI, VC.ldv, VC.slv, VC.pickP, VC.holds, VC.chainOf, VC.look, VC.junk, VC.put, VC.eff, VC.callee, VC.pureB, VC.rdK, VC.rdKs, VC.okKs, VC.eqKs, VC.fillL, VC.putL, VC.stW, VC.stOK, VC.mixF, VC.setAll, Nat.reduceAdd, Nat.reduceSub, Nat.reduceMul, if_true, if_false, ↓reduceIte, forall_const, implies_true, reduceCtorEq, ne_eq, Nat.reduceBNe, Nat.reduceBEq, IntKind.signed, Nat.reduceEqDiff, Nat.reduceLeDiff, Nat.reduceLT, eq_self, Int.reduceEq, Int.reduceLT, Int.reduceLE, Int.reduceAdd, Int.reduceSub, VC.regC_nil, VC.regC_cons, VC.regCK_eq, VC.callQ, VC.tailQ, VC.goCall, VC.chStep]
        have hfr : ∀ g : Nat, foot ([oOwn 4 1 j vw (worksL s j), oOwn 4 1 j vb (boundL s j)] ++ ([oOwn 24 1 k vc (codes.map (Value.int .i64)), oBox b7 [vc, vw, vb, .int .i64 (0), .bool false], oBox rb [nilS, nilS, nilS, .int .i64 0, .bool false]] ++ QObs j ⟨wb, gc, mc, ma⟩ s q)) g → g < wx3.heap.size := fun g hg => (hH.foot_lt (foot_congr rfl hg)).2
        have hH1 := hH.below hB1
        have hBy := hBx.trans (hB1.mono hH.base)
        have n7 : b7 ≠ mc := fun e => hH.ne 3 7 (by decide) rfl rfl _ rfl (by rw [e]; rfl)
        have l7 : b7 < wx3.heap.size := (hH.get 3 rfl : Box wx3 b7 _).1
        have hrr := hH.base
        generalize hrq : wx3.heap.size = rr at hR hfr l7 hrr ⊢
        refine loop_slots Fa.mix [] [15, 93, 94, 95, 96, 97, 98, 99, 100, 101] (fun m vs wr => ∃ left : Int × Int → Prop, vs = [] ∧ RangeV Try.prog EQ wr mc rr q.kc q.Mc left m ∧ Below rb w wr ∧
          Hp rb ([oOwn 4 1 j vw (worksL s j), oOwn 4 1 j vb (boundL s j)] ++ ([oOwn 24 1 k vc (codes.map (Value.int .i64)), oBox b7 [vc, vw, vb, .int .i64 (0 + (S1 - leftS j s.ca left)), .bool false], oBox rb [nilS, nilS, nilS, .int .i64 0, .bool false]] ++ QObs j ⟨wb, gc, mc, ma⟩ s q)) wr) q.kc (by kernel_rfl) rfl
          ⟨_, rfl, hR, hBy, by rw [hlca, show (0 : Int) + (S1 - S1) = 0 by omega]; exact hH1⟩ ?_
        clear hH hH1 hBy hBx hB1 hR hM
        rintro m5 vs u5 wr ⟨left, rfl, hRg, hBx, hH⟩
        simp -dsimp only [Fa.F20, VC.Now, VC.vc, VC.lib, VC.mapN_drewN, VC.mapB_drewN, VC.regQ, VC.loopK, VC.reg, VC.opP, VC.opS, VC.opZ, VC.nomulB, VC.pv, VC.thenF, VC.blkF, VC.retF, VC.resV, VC.oneV, VC.evo, VC.bin, VC.binI, VC.cmpI, VC.arithI, VC.ldv, VC.slv, VC.pickP, VC.holds, VC.chainOf, VC.look, VC.junk, VC.put, VC.eff, VC.callee, VC.pureB, VC.rdK, VC.rdKs, VC.okKs, VC.eqKs, VC.fillL, VC.putL, VC.stW, VC.stOK, VC.mixF, VC.setAll, Nat.reduceAdd, Nat.reduceSub, Nat.reduceMul, if_true, if_false, ↓reduceIte, forall_const, implies_true, reduceCtorEq, ne_eq, Nat.reduceBNe, Nat.reduceBEq, IntKind.signed, Nat.reduceEqDiff, Nat.reduceLeDiff, Nat.reduceLT, eq_self, Int.reduceEq, Int.reduceLT, Int.reduceLE, Int.reduceAdd, Int.reduceSub, VC.regC_nil, VC.regC_cons, VC.regCK_eq, VC.callQ, VC.tailQ, VC.goCall, VC.chStep]
        refine OPW_nextV hRg rfl rfl (fun h0 hno => ?_) (fun x v w2 cnt' hx hlx hmx hRg2 hlt hA2 hs2 hE => ?_)
        · have hl0 : leftS j s.ca left = 0 := leftS_none fun a b ha hb => hno _ (EQ_ok (by omega) (by omega))
          rw [hl0] at hH
          simp -dsimp only [Fa.F20, z9, VC.Now, VC.vc, VC.lib, VC.mapN_drewN, VC.mapB_drewN, VC.regQ, VC.loopK, VC.reg, VC.opP, VC.opS, VC.opZ, VC.nomulB, VC.pv, VC.thenF, VC.blkF, VC.retF, VC.resV, VC.oneV, VC.evo, VC.bin, VC.binI, VC.cmpI, VC.arithI, VC.ldv, VC.slv, VC.pickP, VC.holds, VC.chainOf, VC.look, VC.junk, VC.put, VC.eff, VC.callee, VC.pureB, VC.rdK, VC.rdKs, VC.okKs, VC.eqKs, VC.fillL, VC.putL, VC.stW, VC.stOK, VC.mixF, VC.setAll, Nat.reduceAdd, Nat.reduceSub, Nat.reduceMul, if_true, if_false, ↓reduceIte, forall_const, implies_true, reduceCtorEq, ne_eq, Nat.reduceBNe, Nat.reduceBEq, IntKind.signed, Nat.reduceEqDiff, Nat.reduceLeDiff, Nat.reduceLT, eq_self, Int.reduceEq, Int.reduceLT, Int.reduceLE, Int.reduceAdd, Int.reduceSub, VC.regC_nil, VC.regC_cons, VC.regCK_eq, VC.callQ, VC.tailQ, VC.goCall, VC.chStep]
          refine ⟨fits_i64 (by omega) (by omega), SAME.intro (by kernel_rfl), 1 - 0, by omega, 0 + 1, by omega, rfl, hBx, ?_⟩
          have e : (0 : Int) + (S1 - 0) = S1 := by omega
          rw [e] at hH
          exact hH
        · obtain ⟨a, b, ha, hb, rfl⟩ := hq.ca.key x (by rw [hmx]; rfl)
          have hv := hq.ca.val a b ha hb
          rw [hmx] at hv
          have hv : v = .int .i64 (s.ca a b) := hv
          subst hv
          have hE' : EntryV Try.prog w2 rr (.agg #[.int .i64 a, .int .i64 b]) (.int .i64 (s.ca a b)) := hE
          have htk := leftS_take (f := s.ca) (left := left) ha hb hlx
          have hbd := leftS_bound (left := left) hn hqb.ca
          have hbd2 := leftS_bound (left := fun y => left y ∧ y ≠ ((a : Int), (b : Int))) hn hqb.ca
          have hH2 := hH.agree hA2 (fun g hg e => by have := hfr g (foot_congr (L := [oOwn 4 1 j vw (worksL s j), oOwn 4 1 j vb (boundL s j)] ++ ([oOwn 24 1 k vc (codes.map (Value.int .i64)), oBox b7 [vc, vw, vb, .int .i64 (0 + (S1 - leftS j s.ca left)), .bool false], oBox rb [nilS, nilS, nilS, .int .i64 0, .bool false]] ++ QObs j ⟨wb, gc, mc, ma⟩ s q)) rfl hg); omega)
          have hB2 := hA2.to_below hBx hH.base fun i hi => by omega
          simp -dsimp only [Fa.F20, VC.Now, VC.vc, VC.lib, VC.mapN_drewN, VC.mapB_drewN, VC.regQ, VC.loopK, VC.reg, VC.opP, VC.opS, VC.opZ, VC.nomulB, VC.pv, VC.thenF, VC.blkF, VC.retF, VC.resV, VC.oneV, VC.evo, VC.bin, VC.binI, VC.cmpI, VC.arithI, VC.ldv, VC.slv, VC.pickP, VC.holds, VC.chainOf, VC.look, VC.junk, VC.put, VC.eff, VC.callee, VC.pureB, VC.rdK, VC.rdKs, VC.okKs, VC.eqKs, VC.fillL, VC.putL, VC.stW, VC.stOK, VC.mixF, VC.setAll, Nat.reduceAdd, Nat.reduceSub, Nat.reduceMul, if_true, if_false, ↓reduceIte, forall_const, implies_true, reduceCtorEq, ne_eq, Nat.reduceBNe, Nat.reduceBEq, IntKind.signed, Nat.reduceEqDiff, Nat.reduceLeDiff, Nat.reduceLT, eq_self, Int.reduceEq, Int.reduceLT, Int.reduceLE, Int.reduceAdd, Int.reduceSub, VC.regC_nil, VC.regC_cons, VC.regCK_eq, VC.callQ, VC.tailQ, VC.goCall, VC.chStep]
          refine OPW_entryV hE' rfl rfl ?_
          have bx7 : Box w2 b7 _ := hH2.get 3 rfl
          have y3 := bx7.at (i := 3) rfl
          have f3 := bx7.soft (i := 3) (by show 3 < 5; omega)
          have k3 : (w2.cell? ⟨b7, 3, none⟩).isSome = true := by rw [y3]; rfl
          have hwl := bx7.1
          simp -dsimp only [Fa.F20, rdI_of y3, y3, hwl, f3, k3, VC.Now, VC.vc, VC.lib, VC.mapN_drewN, VC.mapB_drewN, VC.regQ, VC.loopK, VC.reg, VC.opP, VC.opS, VC.opZ, VC.nomulB, VC.pv, VC.thenF, VC.blkF, VC.retF, VC.resV, VC.oneV, VC.evo, VC.bin, VC.binI, VC.cmpI, VC.arithI, VC.ldv, VC.slv, VC.pickP, VC.holds, VC.chainOf, VC.look, VC.junk, VC.put, VC.eff, VC.callee, VC.pureB, VC.rdK, VC.rdKs, VC.okKs, VC.eqKs, VC.fillL, VC.putL, VC.stW, VC.stOK, VC.mixF, VC.setAll, Nat.reduceAdd, Nat.reduceSub, Nat.reduceMul, if_true, if_false, ↓reduceIte, forall_const, implies_true, reduceCtorEq, ne_eq, Nat.reduceBNe, Nat.reduceBEq, IntKind.signed, Nat.reduceEqDiff, Nat.reduceLeDiff, Nat.reduceLT, eq_self, Int.reduceEq, Int.reduceLT, Int.reduceLE, Int.reduceAdd, Int.reduceSub, VC.regC_nil, VC.regC_cons, VC.regCK_eq, VC.callQ, VC.tailQ, VC.goCall, VC.chStep]
          have hca2 := hqb.ca a b
          have hst := hH2.setBox 3 rfl 3 (.int .i64 (0 + (S1 - leftS j s.ca left) + s.ca a b))
          have he : (0 : Int) + (S1 - leftS j s.ca left) + s.ca a b = 0 + (S1 - leftS j s.ca fun y => left y ∧ y ≠ ((a : Int), (b : Int))) := by omega
          refine ⟨fits_i64 (by omega) (by omega), SAME.intro (by kernel_rfl), cnt', hlt, fun y => left y ∧ y ≠ ((a : Int), (b : Int)), ?_, ?_, ?_⟩
          · exact hRg2.agree (Agree.setCell (X := (· = b7)) w2 (a := ⟨b7, 3, none⟩) _ rfl) (fun hh => n7 hh.symm) (by omega)
          · exact hB2.trans (hst.below hH2)
          · rw [he] at hst ⊢
            exact hst.hp
      · have z9 : ((1 : Nat) : Int) = 1 := rfl
        have z8 : ((1 : Int) < 2) = True := eq_true (by decide)
        simp -dsimp only [Fa.F20, z9, z8, VC.Now, VC.vc, VC.lib, VC.mapN_drewN, VC.mapB_drewN, VC.regQ, VC.loopK, VC.reg, VC.opP, VC.opS, VC.opZ, VC.nomulB, VC.pv, VC.thenF, VC.blkF, VC.retF, VC.resV, VC.oneV, VC.evo, VC.bin, VC.binI, VC.cmpI, VC.arithI, VC.ldv, VC.slv, VC.pickP, VC.holds, VC.chainOf, VC.look, VC.junk, VC.put, VC.eff, VC.callee, VC.pureB, VC.rdK, VC.rdKs, VC.okKs, VC.eqKs, VC.fillL, VC.putL, VC.mixF, VC.setAll, Nat.reduceAdd, Nat.reduceSub, Nat.reduceMul, if_true, if_false, ↓reduceIte, forall_const, implies_true, reduceCtorEq, ne_eq, Nat.reduceBNe, Nat.reduceBEq, IntKind.signed, Nat.reduceEqDiff, Nat.reduceLeDiff, Nat.reduceLT, eq_self, Int.reduceEq, Int.reduceLT, Int.reduceLE, Int.reduceAdd, Int.reduceSub, VC.regC_nil, VC.regC_cons, VC.regCK_eq, VC.callQ, VC.tailQ, VC.goCall, VC.chStep]
        refine OPW_index rfl (by kernel_rfl : arrO Try.prog 133 = some (2, 125)) (by kernel_rfl) (by kernel_rfl) (by kernel_rfl) rfl (i := 1) rfl (by decide) rfl ?_
        rw [VC.Now, VC.seqK_eq]
        simp -dsimp only [Fa.F20, VC.Now, VC.vc, VC.lib, VC.mapN_drewN, VC.mapB_drewN, VC.regQ, VC.loopK, VC.reg, VC.opP, VC.opS, VC.opZ, VC.nomulB, VC.pv, VC.thenF, VC.blkF, VC.retF, VC.resV, VC.oneV, VC.evo, VC.bin, VC.binI, VC.cmpI, VC.arithI, VC.ldv, VC.slv, VC.pickP, VC.holds, VC.chainOf, VC.look, VC.junk, VC.put, VC.eff, VC.callee, VC.pureB, VC.rdK, VC.rdKs, VC.okKs, VC.eqKs, VC.fillL, VC.putL, VC.stW, VC.stOK, VC.mixF, VC.setAll, Nat.reduceAdd, Nat.reduceSub, Nat.reduceMul, if_true, if_false, ↓reduceIte, forall_const, implies_true, reduceCtorEq, ne_eq, Nat.reduceBNe, Nat.reduceBEq, IntKind.signed, Nat.reduceEqDiff, Nat.reduceLeDiff, Nat.reduceLT, eq_self, Int.reduceEq, Int.reduceLT, Int.reduceLE, Int.reduceAdd, Int.reduceSub, VC.regC_nil, VC.regC_cons, VC.regCK_eq, VC.callQ, VC.tailQ, VC.goCall, VC.chStep]
        have hM : MapV Try.prog EQ wx3 ma q.ka q.Ma := hH.get 8 rfl
        refine OPW_rangeV hM rfl (by kernel_rfl) rfl fun w1 hR hB1 hs1 => ?_
        simp -dsimp only [Fa.F20, VC.Now, VC.vc, VC.lib, VC.mapN_drewN, VC.mapB_drewN, VC.regQ, VC.loopK, VC.reg, VC.opP, VC.opS, VC.opZ, VC.nomulB, VC.pv, VC.thenF, VC.blkF, VC.retF, VC.resV, VC.oneV, VC.evo, VC.bin, VC.binI, VC.cmpI, VC.arithI, VC.ldv, VC.slv, VC.pickP, VC.holds, VC.chainOf, VC.look, VC.junk, VC.put, VC.eff, VC.callee, VC.pureB, VC.rdK, VC.rdKs, VC.okKs, VC.eqKs, VC.fillL, VC.putL, VC.stW, VC.stOK, VC.mixF, VC.setAll, Nat.reduceAdd, Nat.reduceSub, Nat.reduceMul, if_true, if_false, ↓reduceIte, forall_const, implies_true, reduceCtorEq, ne_eq, Nat.reduceBNe, Nat.reduceBEq, IntKind.signed, Nat.reduceEqDiff, Nat.reduceLeDiff, Nat.reduceLT, eq_self, Int.reduceEq, Int.reduceLT, Int.reduceLE, Int.reduceAdd, Int.reduceSub, VC.regC_nil, VC.regC_cons, VC.regCK_eq, VC.callQ, VC.tailQ, VC.goCall, VC.chStep]
        have hfr : ∀ g : Nat, foot ([oOwn 4 1 j vw (worksL s j), oOwn 4 1 j vb (boundL s j)] ++ ([oOwn 24 1 k vc (codes.map (Value.int .i64)), oBox b7 [vc, vw, vb, .int .i64 (S1), .bool false], oBox rb [nilS, nilS, nilS, .int .i64 0, .bool false]] ++ QObs j ⟨wb, gc, mc, ma⟩ s q)) g → g < wx3.heap.size := fun g hg => (hH.foot_lt (foot_congr rfl hg)).2
        have hH1 := hH.below hB1
        have hBy := hBx.trans (hB1.mono hH.base)
        have n7 : b7 ≠ ma := fun e => hH.ne 3 8 (by decide) rfl rfl _ rfl (by rw [e]; rfl)
        have l7 : b7 < wx3.heap.size := (hH.get 3 rfl : Box wx3 b7 _).1
        have hrr := hH.base
        generalize hrq : wx3.heap.size = rr at hR hfr l7 hrr ⊢
        refine loop_slots Fa.mix [] [15, 93, 94, 95, 96, 97, 98, 99, 100, 101] (fun m vs wr => ∃ left : Int × Int → Prop, vs = [] ∧ RangeV Try.prog EQ wr ma rr q.ka q.Ma left m ∧ Below rb w wr ∧
          Hp rb ([oOwn 4 1 j vw (worksL s j), oOwn 4 1 j vb (boundL s j)] ++ ([oOwn 24 1 k vc (codes.map (Value.int .i64)), oBox b7 [vc, vw, vb, .int .i64 (S1 + (S2 - leftS j s.an left)), .bool false], oBox rb [nilS, nilS, nilS, .int .i64 0, .bool false]] ++ QObs j ⟨wb, gc, mc, ma⟩ s q)) wr) q.ka (by kernel_rfl) rfl
          ⟨_, rfl, hR, hBy, by rw [hlan, show (S1 : Int) + (S2 - S2) = S1 by omega]; exact hH1⟩ ?_
        clear hH hH1 hBy hBx hB1 hR hM
        rintro m5 vs u5 wr ⟨left, rfl, hRg, hBx, hH⟩
        simp -dsimp only [Fa.F20, VC.Now, VC.vc, VC.lib, VC.mapN_drewN, VC.mapB_drewN, VC.regQ, VC.loopK, VC.reg, VC.opP, VC.opS, VC.opZ, VC.nomulB, VC.pv, VC.thenF, VC.blkF, VC.retF, VC.resV, VC.oneV, VC.evo, VC.bin, VC.binI, VC.cmpI, VC.arithI, VC.ldv, VC.slv, VC.pickP, VC.holds, VC.chainOf, VC.look, VC.junk, VC.put, VC.eff, VC.callee, VC.pureB, VC.rdK, VC.rdKs, VC.okKs, VC.eqKs, VC.fillL, VC.putL, VC.stW, VC.stOK, VC.mixF, VC.setAll, Nat.reduceAdd, Nat.reduceSub, Nat.reduceMul, if_true, if_false, ↓reduceIte, forall_const, implies_true, reduceCtorEq, ne_eq, Nat.reduceBNe, Nat.reduceBEq, IntKind.signed, Nat.reduceEqDiff, Nat.reduceLeDiff, Nat.reduceLT, eq_self, Int.reduceEq, Int.reduceLT, Int.reduceLE, Int.reduceAdd, Int.reduceSub, VC.regC_nil, VC.regC_cons, VC.regCK_eq, VC.callQ, VC.tailQ, VC.goCall, VC.chStep]
        refine OPW_nextV hRg rfl rfl (fun h0 hno => ?_) (fun x v w2 cnt' hx hlx hmx hRg2 hlt hA2 hs2 hE => ?_)
        · have hl0 : leftS j s.an left = 0 := leftS_none fun a b ha hb => hno _ (EQ_ok (by omega) (by omega))
          rw [hl0] at hH
          simp -dsimp only [Fa.F20, z9, VC.Now, VC.vc, VC.lib, VC.mapN_drewN, VC.mapB_drewN, VC.regQ, VC.loopK, VC.reg, VC.opP, VC.opS, VC.opZ, VC.nomulB, VC.pv, VC.thenF, VC.blkF, VC.retF, VC.resV, VC.oneV, VC.evo, VC.bin, VC.binI, VC.cmpI, VC.arithI, VC.ldv, VC.slv, VC.pickP, VC.holds, VC.chainOf, VC.look, VC.junk, VC.put, VC.eff, VC.callee, VC.pureB, VC.rdK, VC.rdKs, VC.okKs, VC.eqKs, VC.fillL, VC.putL, VC.stW, VC.stOK, VC.mixF, VC.setAll, Nat.reduceAdd, Nat.reduceSub, Nat.reduceMul, if_true, if_false, ↓reduceIte, forall_const, implies_true, reduceCtorEq, ne_eq, Nat.reduceBNe, Nat.reduceBEq, IntKind.signed, Nat.reduceEqDiff, Nat.reduceLeDiff, Nat.reduceLT, eq_self, Int.reduceEq, Int.reduceLT, Int.reduceLE, Int.reduceAdd, Int.reduceSub, VC.regC_nil, VC.regC_cons, VC.regCK_eq, VC.callQ, VC.tailQ, VC.goCall, VC.chStep]
          refine ⟨fits_i64 (by omega) (by omega), SAME.intro (by kernel_rfl), 1 - 1, by omega, 1 + 1, by omega, rfl, hBx, ?_⟩
          have e : (S1 : Int) + (S2 - 0) = S1 + S2 := by omega
          rw [e] at hH
          exact hH
        · obtain ⟨a, b, ha, hb, rfl⟩ := hq.an.key x (by rw [hmx]; rfl)
          have hv := hq.an.val a b ha hb
          rw [hmx] at hv
          have hv : v = .int .i64 (s.an a b) := hv
          subst hv
          have hE' : EntryV Try.prog w2 rr (.agg #[.int .i64 a, .int .i64 b]) (.int .i64 (s.an a b)) := hE
          have htk := leftS_take (f := s.an) (left := left) ha hb hlx
          have hbd := leftS_bound (left := left) hn hqb.an
          have hbd2 := leftS_bound (left := fun y => left y ∧ y ≠ ((a : Int), (b : Int))) hn hqb.an
          have hH2 := hH.agree hA2 (fun g hg e => by have := hfr g (foot_congr (L := [oOwn 4 1 j vw (worksL s j), oOwn 4 1 j vb (boundL s j)] ++ ([oOwn 24 1 k vc (codes.map (Value.int .i64)), oBox b7 [vc, vw, vb, .int .i64 (S1 + (S2 - leftS j s.an left)), .bool false], oBox rb [nilS, nilS, nilS, .int .i64 0, .bool false]] ++ QObs j ⟨wb, gc, mc, ma⟩ s q)) rfl hg); omega)
          have hB2 := hA2.to_below hBx hH.base fun i hi => by omega
          simp -dsimp only [Fa.F20, VC.Now, VC.vc, VC.lib, VC.mapN_drewN, VC.mapB_drewN, VC.regQ, VC.loopK, VC.reg, VC.opP, VC.opS, VC.opZ, VC.nomulB, VC.pv, VC.thenF, VC.blkF, VC.retF, VC.resV, VC.oneV, VC.evo, VC.bin, VC.binI, VC.cmpI, VC.arithI, VC.ldv, VC.slv, VC.pickP, VC.holds, VC.chainOf, VC.look, VC.junk, VC.put, VC.eff, VC.callee, VC.pureB, VC.rdK, VC.rdKs, VC.okKs, VC.eqKs, VC.fillL, VC.putL, VC.stW, VC.stOK, VC.mixF, VC.setAll, Nat.reduceAdd, Nat.reduceSub, Nat.reduceMul, if_true, if_false, ↓reduceIte, forall_const, implies_true, reduceCtorEq, ne_eq, Nat.reduceBNe, Nat.reduceBEq, IntKind.signed, Nat.reduceEqDiff, Nat.reduceLeDiff, Nat.reduceLT, eq_self, Int.reduceEq, Int.reduceLT, Int.reduceLE, Int.reduceAdd, Int.reduceSub, VC.regC_nil, VC.regC_cons, VC.regCK_eq, VC.callQ, VC.tailQ, VC.goCall, VC.chStep]
          refine OPW_entryV hE' rfl rfl ?_
          have bx7 : Box w2 b7 _ := hH2.get 3 rfl
          have y3 := bx7.at (i := 3) rfl
          have f3 := bx7.soft (i := 3) (by show 3 < 5; omega)
          have k3 : (w2.cell? ⟨b7, 3, none⟩).isSome = true := by rw [y3]; rfl
          have hwl := bx7.1
          simp -dsimp only [Fa.F20, rdI_of y3, y3, hwl, f3, k3, VC.Now, VC.vc, VC.lib, VC.mapN_drewN, VC.mapB_drewN, VC.regQ, VC.loopK, VC.reg, VC.opP, VC.opS, VC.opZ, VC.nomulB, VC.pv, VC.thenF, VC.blkF, VC.retF, VC.resV, VC.oneV, VC.evo, VC.bin, VC.binI, VC.cmpI, VC.arithI, VC.ldv, VC.slv, VC.pickP, VC.holds, VC.chainOf, VC.look, VC.junk, VC.put, VC.eff, VC.callee, VC.pureB, VC.rdK, VC.rdKs, VC.okKs, VC.eqKs, VC.fillL, VC.putL, VC.stW, VC.stOK, VC.mixF, VC.setAll, Nat.reduceAdd, Nat.reduceSub, Nat.reduceMul, if_true, if_false, ↓reduceIte, forall_const, implies_true, reduceCtorEq, ne_eq, Nat.reduceBNe, Nat.reduceBEq, IntKind.signed, Nat.reduceEqDiff, Nat.reduceLeDiff, Nat.reduceLT, eq_self, Int.reduceEq, Int.reduceLT, Int.reduceLE, Int.reduceAdd, Int.reduceSub, VC.regC_nil, VC.regC_cons, VC.regCK_eq, VC.callQ, VC.tailQ, VC.goCall, VC.chStep]
          have hca2 := hqb.an a b
          have hst := hH2.setBox 3 rfl 3 (.int .i64 (S1 + (S2 - leftS j s.an left) + s.an a b))
          have he : (S1 : Int) + (S2 - leftS j s.an left) + s.an a b = S1 + (S2 - leftS j s.an fun y => left y ∧ y ≠ ((a : Int), (b : Int))) := by omega
          refine ⟨fits_i64 (by omega) (by omega), SAME.intro (by kernel_rfl), cnt', hlt, fun y => left y ∧ y ≠ ((a : Int), (b : Int)), ?_, ?_, ?_⟩
          · exact hRg2.agree (Agree.setCell (X := (· = b7)) w2 (a := ⟨b7, 3, none⟩) _ rfl) (fun hh => n7 hh.symm) (by omega)
          · exact hB2.trans (hst.below hH2)
          · rw [he] at hst ⊢
            exact hst.hp
      · have z9 : ((2 : Nat) : Int) = 2 := rfl
        have z8 : ((2 : Int) < 2) = False := eq_false (by decide)
        have bw : Box wx3 wb (worldQ j ⟨wb, gc, mc, ma⟩ s.done) := hH.get 5 rfl
        have bo : Box wx3 b7 _ := hH.get 3 rfl
        have y3 := bw.at (i := 3) rfl
        have f4 := bo.soft (i := 4) (by show 4 < 5; omega)
        have k4 : (wx3.cell? ⟨b7, 4, none⟩).isSome = true := by rw [bo.at (i := 4) rfl]; rfl
        have hwl3 := bw.1
        have hol := bo.1
        have st1 := hH.setBox 3 rfl 4 (.bool s.done)
        have bo1 := st1.hp.get 3 rfl
        change Box (wx3.setCell ⟨b7, 4, none⟩ (.bool s.done)) b7 [vc, vw, vb, .int .i64 (S1 + S2), .bool s.done] at bo1
        obtain ⟨Ac, cc, ec, hRc⟩ := apSv (st1.hp.get 2 rfl : OwnK _ 0 24 1 k vc _)
        obtain ⟨Aw, cw, ew, hRw⟩ := apSv (st1.hp.get 0 rfl : OwnK _ 0 4 1 j vw _)
        obtain ⟨Ab, cb, eb, hRb⟩ := apSv (st1.hp.get 1 rfl : OwnK _ 0 4 1 j vb _)
        have lc : (codes.map (Value.int .i64)).length = k := by rw [List.length_map]; exact hcl
        have lw : (worksL s j).length = j := by simp
        have lb : (boundL s j).length = j := by simp
        rw [lc] at ec
        rw [lw] at ew
        rw [lb] at eb
        rw [ec, ew, eb] at bo1
        have b0 := bo1.at (i := 0) rfl
        have b1 := bo1.at (i := 1) rfl
        have b2 := bo1.at (i := 2) rfl
        have b3 := bo1.at (i := 3) rfl
        have b4 := bo1.at (i := 4) rfl
        have hol1 := bo1.1
        have hH1 := st1.hp
        have hB1 := hBx.trans (st1.below hH)
        obtain ⟨wy, hwy⟩ : ∃ wy, wy = wx3.setCell ⟨b7, 4, none⟩ (.bool s.done) := ⟨_, rfl⟩
        rw [← hwy] at hH1 hB1 b0 b1 b2 b3 b4 hol1 hRc hRw hRb
        obtain ⟨ok, st2⟩ := hH1.allBox 4 rfl (vs := [.slice Ac k cc, .slice Aw j cw, .slice Ab j cb, .int .i64 (S1 + S2), .bool s.done]) rfl (by intro v hv; simp at hv; rcases hv with rfl | rfl | rfl | rfl | rfl <;> rfl)
        have rb5 : Box _ rb [.slice Ac k cc, .slice Aw j cw, .slice Ab j cb, .int .i64 (S1 + S2), .bool s.done] := st2.hp.get 4 rfl
        have t0 := rb5.at (i := 0) rfl
        have t1 := rb5.at (i := 1) rfl
        have t2 := rb5.at (i := 2) rfl
        have t3 := rb5.at (i := 3) rfl
        have t4 := rb5.at (i := 4) rfl
        simp -dsimp only [Fa.F20, z9, z8, rdB_of y3, y3, hwl3, hol, f4, k4, hol1, stOK_one, stW_one, ← hwy, rdSA_of b0, rdSN_of b0, rdSC_of b0, b0, rdSA_of b1, rdSN_of b1, rdSC_of b1, b1, rdSA_of b2, rdSN_of b2, rdSC_of b2, b2, rdI_of b3, b3, rdB_of b4, b4, rdSA_of t0, rdSN_of t0, rdSC_of t0, t0, rdSA_of t1, rdSN_of t1, rdSC_of t1, t1, rdSA_of t2, rdSN_of t2, rdSC_of t2, t2, rdI_of t3, t3, rdB_of t4, t4, VC.Now, VC.vc, VC.lib, VC.mapN_drewN, VC.mapB_drewN, VC.regQ, VC.loopK, VC.reg, VC.opP, VC.opS, VC.opZ, VC.nomulB, VC.pv, VC.thenF, VC.blkF, VC.retF, VC.resV, VC.oneV, VC.evo, VC.bin, VC.binI, VC.cmpI, VC.arithI, VC.ldv, VC.slv, VC.pickP, VC.holds, VC.chainOf, VC.look, VC.junk, VC.put, VC.eff, VC.callee, VC.pureB, VC.rdK, VC.rdKs, VC.okKs, VC.eqKs, VC.fillL, VC.putL, VC.mixF, VC.setAll, Nat.reduceAdd, Nat.reduceSub, Nat.reduceMul, if_true, if_false, ↓reduceIte, forall_const, implies_true, reduceCtorEq, ne_eq, Nat.reduceBNe, Nat.reduceBEq, IntKind.signed, Nat.reduceEqDiff, Nat.reduceLeDiff, Nat.reduceLT, eq_self, Int.reduceEq, Int.reduceLT, Int.reduceLE, Int.reduceAdd, Int.reduceSub, VC.regC_nil, VC.regC_cons, VC.regCK_eq, VC.callQ, VC.tailQ, VC.goCall, VC.chStep]
        have q0 := (st2.hp.get 2 rfl : OwnK _ 0 24 1 k vc _)
        have q1 := (st2.hp.get 0 rfl : OwnK _ 0 4 1 j vw _)
        have q2 := (st2.hp.get 1 rfl : OwnK _ 0 4 1 j vb _)
        rw [ec] at q0
        rw [ew] at q1
        rw [eb] at q2
        refine ⟨ok, _, rfl, ⟨Ac, cc, Aw, cw, Ab, cb, by rw [haw], hcl, q0.rd.2, q1.rd.2, q2.rd.2⟩, by rw [hrb]; exact hB1.trans (st2.below hH1)⟩
end
end Go.Proofs.Ytelfmhiaafkimaa
