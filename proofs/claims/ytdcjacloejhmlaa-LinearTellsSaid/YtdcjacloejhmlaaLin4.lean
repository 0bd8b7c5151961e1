/- The search: find. -/
import Derived.Test.YtdcjacloejhmlaaLin3
import Derived.Test.YtdcjacloejhmlaaOwn3
import Derived.Test.YtdcjacloejhmlaaHeld
import Derived.WalkSmall
namespace Go.VC
open Go Go.RowKit
theorem OwnK.pop {w : World} {B : Nat} {e : TypeId} {n g c : Nat} {xs : List Value} {u : Value} (h : OwnK w B e 1 (n + 1) (.slice (some ⟨g, 0, none⟩) (n + 1) c) (xs ++ [u])) : OwnK w B e 1 n (.slice (some ⟨g, 0, none⟩) n c) xs := by
  obtain ⟨A, c', hv, ho⟩ := h
  have hl : xs.length = n * 1 := by have := ho.1; simp at this; omega
  exact ⟨_, _, rfl, ownsRow_pop hl ho⟩
end Go.VC
namespace Go.Proofs.Ytdcjacloejhmlaa
open Go Go.RowKit Go.VC
set_option linter.unusedSimpArgs false
set_option linter.unusedVariables false

theorem findRange_hit {α : Type} {g : Nat → Option α} {k : Nat} {r : α} (h0 : ∀ i, i < k → g i = none) (h : g k = some r) : ∀ n, k < n → (List.range n).findSome? g = some r := by
  intro n
  induction n with
  | zero => intro hk; omega
  | succ n ih =>
    intro hk
    rw [List.range_succ, List.findSome?_append]
    rcases Nat.lt_or_ge k n with h1 | h1
    · rw [ih h1]; rfl
    · obtain rfl : k = n := by omega
      rw [show (List.range k).findSome? g = none from by rw [List.findSome?_eq_none_iff]; exact fun i hi => h0 i (List.mem_range.1 hi)]
      simp [h]
theorem findRange_none {α : Type} {g : Nat → Option α} {n : Nat} (h0 : ∀ i, i < n → g i = none) : (List.range n).findSome? g = none := by
  rw [List.findSome?_eq_none_iff]; exact fun i hi => h0 i (List.mem_range.1 hi)
/-- No more than n apart below n. -/
theorem nodup_le : ∀ (n : Nat) (l : List Nat), l.Nodup → (∀ i ∈ l, i < n) → l.length ≤ n := by
  intro n
  induction n with
  | zero => intro l _ h; cases l with
    | nil => simp
    | cons a l => have := h a (by simp); omega
  | succ n ih =>
    intro l hn h
    have h1 := ih (l.erase n) (hn.erase n) (fun i hi => by
      have h2 : i ∈ l := List.mem_of_mem_erase hi
      have h3 : i ≠ n := fun e => by subst e; exact (hn.not_mem_erase) hi
      have := h i h2; omega)
    have h4 : l.length ≤ (l.erase n).length + 1 := by rw [List.length_erase]; split <;> omega
    omega
theorem nodup_app {l : List Nat} {i : Nat} (h : l.Nodup) (hi : i ∉ l) : (l ++ [i]).Nodup := by
  rw [List.nodup_append]
  exact ⟨h, by simp, fun a ha b hb => by rw [List.mem_singleton.1 hb]; exact fun e => hi (e ▸ ha)⟩
theorem agree_set4 (w : World) (sb i1 i2 i3 i4 : Nat) (x1 x2 x3 x4 : Value) : Agree (fun j => j = sb) w ((((w.setCell ⟨sb, i1, none⟩ x1).setCell ⟨sb, i2, none⟩ x2).setCell ⟨sb, i3, none⟩ x3).setCell ⟨sb, i4, none⟩ x4) := by
  have h1 : Agree (fun j => j = sb) w (w.setCell ⟨sb, i1, none⟩ x1) := Agree.setCell _ _ rfl
  have h2 := h1.trans (Agree.setCell (X := fun j => j = sb) (a := ⟨sb, i2, none⟩) _ x2 rfl)
  have h3 := h2.trans (Agree.setCell (X := fun j => j = sb) (a := ⟨sb, i3, none⟩) _ x3 rfl)
  exact h3.trans (Agree.setCell (X := fun j => j = sb) (a := ⟨sb, i4, none⟩) _ x4 rfl)
section
variable (len : Nat) (reg : Nat → Int) (wr : Nat → Bool) (val fr to : Nat → Int)
theorem dfs_full {f : Nat} {l : List Nat} (h : fullB len to l = true) : dfs len reg wr val fr to f l = some l := by
  cases f with
  | zero => unfold dfs; rw [if_pos h]
  | succ f => unfold dfs; rw [if_pos h]
theorem dfs_more {f : Nat} {l : List Nat} (h : fullB len to l = false) : dfs len reg wr val fr to (f + 1) l = (List.range len).findSome? fun i => if mayB len reg wr val fr to l i = true then dfs len reg wr val fr to f (l ++ [i]) else none := by
  rw [dfs]; rw [if_neg (by rw [h]; simp)]
theorem full_all {l : List Nat} (hn : l.Nodup) (hl : ∀ i ∈ l, i < len) (h : l.length = len) : fullB len to l = true := by
  unfold fullB
  rw [List.all_eq_true]
  intro i hi
  have hin : i ∈ l := Classical.byContradiction fun hni => by
    have h2 := nodup_le len (l ++ [i]) (nodup_app hn hni) (fun j hj => by
      rcases List.mem_append.1 hj with h | h
      · exact hl j h
      · rw [List.mem_singleton.1 h]; exact List.mem_range.1 hi)
    rw [List.length_append, List.length_singleton] at h2
    omega
  simp [hin]
end

abbrev natO (l : List Nat) : List Value := l.map fun (k : Nat) => Value.int .i64 (k : Int)

/-- The search's state. -/
structure StF (B : Nat) (A : Option Addr) (len c sb : Nat) (reg : Nat → Int) (wr : Nat → Bool) (val : Nat → Int) (l : List Nat) (v : Value) (w : World) : Prop where
  box : Box w sb (stC A len c l v (rgs reg wr val l))
  own : OwnK w B 3 1 l.length v (natO l)
  far : v.ownBlock ≠ some sb

/-- The cells of the search, by its bits. -/
abbrev stD (A : Option Addr) (len c M : Nat) (v : Value) (R : Int → Int) : List Value := [.slice A len c, .int .u32 (M : Nat), v, .int .i64 (R 0), .int .i64 (R 1), .int .i64 (R 2), .int .i64 (R 3)]

theorem same_eq4 {f f' : Array Value} {nm jk : List Nat} (h : SAME f f' nm jk) : ∃ u, f' = mixF f nm (nm.map fun t => f'.getD t undef) jk u := ⟨_, h⟩

abbrev FindsB (B : Nat) (A : Option Addr) (len c sb : Nat) (reg : Nat → Int) (wr : Nat → Bool) (val fr to : Nat → Int) (f : Nat) (l : List Nat) (v : Value) (w : World) : Prop :=
    Calls Try.prog 81 #[.pointer (some ⟨sb, 0, none⟩)] w fun e w' => e = .returned (.bool (dfs len reg wr val fr to f l).isSome) ∧
      ∃ v', StF B A len c sb reg wr val ((dfs len reg wr val fr to f l).getD l) v' w' ∧ Stays w v v' ∧ Agree (fun k => k = sb ∨ v.ownBlock = some k) w w'
theorem StF.below {B : Nat} {A : Option Addr} {len c sb : Nat} {reg : Nat → Int} {wr : Nat → Bool} {val : Nat → Int} {l : List Nat} {v : Value} {w w' : World} (h : StF B A len c sb reg wr val l v w) (hB : Below w.heap.size w w') : StF B A len c sb reg wr val l v w' :=
  ⟨h.box.below hB, h.own.below hB, h.far⟩

set_option maxRecDepth 8000 in
set_option maxHeartbeats 4000000 in
theorem find_full (w1 : World) (A : Option Addr) (len c sb : Nat) (who reg : Nat → Int) (wr : Nat → Bool) (val fr to : Nat → Int) (hr : RdO w1 A len who reg wr val fr to) (h8 : len ≤ 8) (f : Nat) (l : List Nat) (v : Value) (w : World) (hll : ∀ i ∈ l, i < len) (hB : Below w1.heap.size w1 w) (hS : StF w1.heap.size A len c sb reg wr val l v w) (hfull : fullB len to l = true) : FindsB w1.heap.size A len c sb reg wr val fr to f l v w := by
  unfold FindsB
  rw [dfs_full len reg wr val fr to hfull]
  refine calls_vc (rs := [.tmp 2]) Fa.mix Try.func81 rfl Try.ntmps81 rfl (by kernel_rfl) (Nat.le_of_ble_eq_true rfl) ?_
  (repeat rw [vc_seq]); refine vc_plain _ fun Q hQ => ?_; simp -dsimp only [Fa.F81, VC.Now, VC.vc_skip, VC.vc_ret, VC.vc_exit, VC.vc_block, VC.vc_cond, VC.vc_region, VC.lib, VC.regQ, VC.loopK, VC.reg, VC.opP, VC.pv, VC.thenF, VC.blkF, VC.retF, VC.resV, VC.oneV, VC.evo, VC.bin, VC.binI, VC.cmpI, VC.arithI, VC.ldv, VC.slv, VC.pickP, VC.holds, VC.chainOf, VC.look, VC.junk, VC.put, VC.eff, VC.callee, VC.pureB, VC.rdK, VC.rdKs, VC.okKs, VC.eqKs, VC.fillL, VC.putL, VC.stW, VC.stOK, VC.mixF, VC.setAll, Nat.reduceAdd, Nat.reduceSub, Nat.reduceMul, if_true, if_false, ↓reduceIte, forall_const, implies_true, reduceCtorEq, ne_eq, Nat.reduceBNe, Nat.reduceBEq, IntKind.signed, Nat.reduceEqDiff, Nat.reduceLeDiff, Nat.reduceLT, eq_self, Int.reduceEq, Int.reduceLT, Int.reduceLE, Int.reduceAdd, Int.reduceSub, VC.regC_nil, VC.regC_cons, VC.regCK_eq, VC.callQ, VC.tailQ, VC.goCall, VC.chStep]
  subst hQ; simp -dsimp only [VC.Now, VC.vc_skip, VC.vc_ret, VC.vc_exit, VC.vc_block, VC.vc_cond, VC.vc_region, VC.lib, VC.regQ, VC.loopK, VC.reg, VC.opP, VC.pv, VC.thenF, VC.blkF, VC.retF, VC.resV, VC.oneV, VC.evo, VC.bin, VC.binI, VC.cmpI, VC.arithI, VC.ldv, VC.slv, VC.pickP, VC.holds, VC.chainOf, VC.look, VC.junk, VC.put, VC.eff, VC.callee, VC.pureB, VC.rdK, VC.rdKs, VC.okKs, VC.eqKs, VC.fillL, VC.putL, VC.stW, VC.stOK, VC.mixF, VC.setAll, Nat.reduceAdd, Nat.reduceSub, Nat.reduceMul, if_true, if_false, ↓reduceIte, forall_const, implies_true, reduceCtorEq, ne_eq, Nat.reduceBNe, Nat.reduceBEq, IntKind.signed, Nat.reduceEqDiff, Nat.reduceLeDiff, Nat.reduceLT, eq_self, Int.reduceEq, Int.reduceLT, Int.reduceLE, Int.reduceAdd, Int.reduceSub, VC.regC_nil, VC.regC_cons, VC.regCK_eq, VC.callQ, VC.tailQ, VC.goCall, VC.chStep]; (repeat rw [vc_seq]); refine vc_plain _ fun Q hQ => ?_; simp -dsimp only [Fa.F81, VC.Now, VC.vc_skip, VC.vc_ret, VC.vc_exit, VC.vc_block, VC.vc_cond, VC.vc_region, VC.lib, VC.regQ, VC.loopK, VC.reg, VC.opP, VC.pv, VC.thenF, VC.blkF, VC.retF, VC.resV, VC.oneV, VC.evo, VC.bin, VC.binI, VC.cmpI, VC.arithI, VC.ldv, VC.slv, VC.pickP, VC.holds, VC.chainOf, VC.look, VC.junk, VC.put, VC.eff, VC.callee, VC.pureB, VC.rdK, VC.rdKs, VC.okKs, VC.eqKs, VC.fillL, VC.putL, VC.stW, VC.stOK, VC.mixF, VC.setAll, Nat.reduceAdd, Nat.reduceSub, Nat.reduceMul, if_true, if_false, ↓reduceIte, forall_const, implies_true, reduceCtorEq, ne_eq, Nat.reduceBNe, Nat.reduceBEq, IntKind.signed, Nat.reduceEqDiff, Nat.reduceLeDiff, Nat.reduceLT, eq_self, Int.reduceEq, Int.reduceLT, Int.reduceLE, Int.reduceAdd, Int.reduceSub, VC.regC_nil, VC.regC_cons, VC.regCK_eq, VC.callQ, VC.tailQ, VC.goCall, VC.chStep]
  refine CALL_of (full_any A len c sb who reg wr val fr to l v _ w (hr.below hB) hS.box h8 fun i hi => by have := hll i hi; omega) fun w2 hB2 => ?_
  rw [hfull]
  simp -dsimp only [Fa.F81, VC.Now, VC.vc_skip, VC.vc_ret, VC.vc_exit, VC.vc_block, VC.vc_cond, VC.vc_region, VC.lib, VC.regQ, VC.loopK, VC.reg, VC.opP, VC.pv, VC.thenF, VC.blkF, VC.retF, VC.resV, VC.oneV, VC.evo, VC.bin, VC.binI, VC.cmpI, VC.arithI, VC.ldv, VC.slv, VC.pickP, VC.holds, VC.chainOf, VC.look, VC.junk, VC.put, VC.eff, VC.callee, VC.pureB, VC.rdK, VC.rdKs, VC.okKs, VC.eqKs, VC.fillL, VC.putL, VC.stW, VC.stOK, VC.mixF, VC.setAll, Nat.reduceAdd, Nat.reduceSub, Nat.reduceMul, if_true, if_false, ↓reduceIte, forall_const, implies_true, reduceCtorEq, ne_eq, Nat.reduceBNe, Nat.reduceBEq, IntKind.signed, Nat.reduceEqDiff, Nat.reduceLeDiff, Nat.reduceLT, eq_self, Int.reduceEq, Int.reduceLT, Int.reduceLE, Int.reduceAdd, Int.reduceSub, VC.regC_nil, VC.regC_cons, VC.regCK_eq, VC.callQ, VC.tailQ, VC.goCall, VC.chStep]
  subst hQ; simp -dsimp only [VC.Now, VC.vc_skip, VC.vc_ret, VC.vc_exit, VC.vc_block, VC.vc_cond, VC.vc_region, VC.lib, VC.regQ, VC.loopK, VC.reg, VC.opP, VC.pv, VC.thenF, VC.blkF, VC.retF, VC.resV, VC.oneV, VC.evo, VC.bin, VC.binI, VC.cmpI, VC.arithI, VC.ldv, VC.slv, VC.pickP, VC.holds, VC.chainOf, VC.look, VC.junk, VC.put, VC.eff, VC.callee, VC.pureB, VC.rdK, VC.rdKs, VC.okKs, VC.eqKs, VC.fillL, VC.putL, VC.stW, VC.stOK, VC.mixF, VC.setAll, Nat.reduceAdd, Nat.reduceSub, Nat.reduceMul, if_true, if_false, ↓reduceIte, forall_const, implies_true, reduceCtorEq, ne_eq, Nat.reduceBNe, Nat.reduceBEq, IntKind.signed, Nat.reduceEqDiff, Nat.reduceLeDiff, Nat.reduceLT, eq_self, Int.reduceEq, Int.reduceLT, Int.reduceLE, Int.reduceAdd, Int.reduceSub, VC.regC_nil, VC.regC_cons, VC.regCK_eq, VC.callQ, VC.tailQ, VC.goCall, VC.chStep]; (repeat rw [vc_seq]); refine vc_plain _ fun Q hQ => ?_; simp -dsimp only [Fa.F81, VC.Now, VC.vc_skip, VC.vc_ret, VC.vc_exit, VC.vc_block, VC.vc_cond, VC.vc_region, VC.lib, VC.regQ, VC.loopK, VC.reg, VC.opP, VC.pv, VC.thenF, VC.blkF, VC.retF, VC.resV, VC.oneV, VC.evo, VC.bin, VC.binI, VC.cmpI, VC.arithI, VC.ldv, VC.slv, VC.pickP, VC.holds, VC.chainOf, VC.look, VC.junk, VC.put, VC.eff, VC.callee, VC.pureB, VC.rdK, VC.rdKs, VC.okKs, VC.eqKs, VC.fillL, VC.putL, VC.stW, VC.stOK, VC.mixF, VC.setAll, Nat.reduceAdd, Nat.reduceSub, Nat.reduceMul, if_true, if_false, ↓reduceIte, forall_const, implies_true, reduceCtorEq, ne_eq, Nat.reduceBNe, Nat.reduceBEq, IntKind.signed, Nat.reduceEqDiff, Nat.reduceLeDiff, Nat.reduceLT, eq_self, Int.reduceEq, Int.reduceLT, Int.reduceLE, Int.reduceAdd, Int.reduceSub, VC.regC_nil, VC.regC_cons, VC.regCK_eq, VC.callQ, VC.tailQ, VC.goCall, VC.chStep]
  subst hQ
  simp -dsimp only [VC.Now, VC.vc_skip, VC.vc_ret, VC.vc_exit, VC.vc_block, VC.vc_cond, VC.vc_region, VC.lib, VC.regQ, VC.loopK, VC.reg, VC.opP, VC.pv, VC.thenF, VC.blkF, VC.retF, VC.resV, VC.oneV, VC.evo, VC.bin, VC.binI, VC.cmpI, VC.arithI, VC.ldv, VC.slv, VC.pickP, VC.holds, VC.chainOf, VC.look, VC.junk, VC.put, VC.eff, VC.callee, VC.pureB, VC.rdK, VC.rdKs, VC.okKs, VC.eqKs, VC.fillL, VC.putL, VC.stW, VC.stOK, VC.mixF, VC.setAll, Nat.reduceAdd, Nat.reduceSub, Nat.reduceMul, if_true, if_false, ↓reduceIte, forall_const, implies_true, reduceCtorEq, ne_eq, Nat.reduceBNe, Nat.reduceBEq, IntKind.signed, Nat.reduceEqDiff, Nat.reduceLeDiff, Nat.reduceLT, eq_self, Int.reduceEq, Int.reduceLT, Int.reduceLE, Int.reduceAdd, Int.reduceSub, VC.regC_nil, VC.regC_cons, VC.regCK_eq, VC.callQ, VC.tailQ, VC.goCall, VC.chStep]
  exact ⟨v, hS.below hB2, Or.inl rfl, Agree.of_below hB2⟩

set_option maxRecDepth 8000 in
set_option maxHeartbeats 4000000 in
theorem find_any (w1 : World) (A : Option Addr) (len c sb : Nat) (who reg : Nat → Int) (wr : Nat → Bool) (val fr to : Nat → Int) (hr : RdO w1 A len who reg wr val fr to) (h8 : len ≤ 8) (hrg : ∀ i, i < len → 0 ≤ reg i ∧ reg i < 4) (hsb : w1.heap.size ≤ sb) :
    ∀ (f : Nat) (l : List Nat) (v : Value) (w : World), l.length + f = len → l.Nodup → (∀ i ∈ l, i < len) → Below w1.heap.size w1 w → StF w1.heap.size A len c sb reg wr val l v w → FindsB w1.heap.size A len c sb reg wr val fr to f l v w := by
  intro f
  induction f with
  | zero =>
    intro l v w hlf hnd hll hB hS
    exact find_full w1 A len c sb who reg wr val fr to hr h8 0 l v w hll hB hS (full_all len to hnd hll (by omega))
  | succ f ih =>
    intro l v w hlf hnd hll hB hS
    cases hfull : fullB len to l with
    | true => exact find_full w1 A len c sb who reg wr val fr to hr h8 _ l v w hll hB hS hfull
    | false =>
    unfold FindsB
    rw [dfs_more len reg wr val fr to hfull]
    generalize hg : (fun i => if mayB len reg wr val fr to l i = true then dfs len reg wr val fr to f (l ++ [i]) else none) = g
    have h32 : ∀ i ∈ l, i < 32 := fun i hi => by have := hll i hi; omega
    refine calls_vc (rs := [.tmp 2]) Fa.mix Try.func81 rfl Try.ntmps81 rfl (by kernel_rfl) (Nat.le_of_ble_eq_true rfl) ?_
    (repeat rw [vc_seq]); refine vc_plain _ fun Q hQ => ?_; simp -dsimp only [Fa.F81, VC.Now, VC.vc_skip, VC.vc_ret, VC.vc_exit, VC.vc_block, VC.vc_cond, VC.vc_region, VC.lib, VC.regQ, VC.loopK, VC.reg, VC.opP, VC.pv, VC.thenF, VC.blkF, VC.retF, VC.resV, VC.oneV, VC.evo, VC.bin, VC.binI, VC.cmpI, VC.arithI, VC.ldv, VC.slv, VC.pickP, VC.holds, VC.chainOf, VC.look, VC.junk, VC.put, VC.eff, VC.callee, VC.pureB, VC.rdK, VC.rdKs, VC.okKs, VC.eqKs, VC.fillL, VC.putL, VC.stW, VC.stOK, VC.mixF, VC.setAll, Nat.reduceAdd, Nat.reduceSub, Nat.reduceMul, if_true, if_false, ↓reduceIte, forall_const, implies_true, reduceCtorEq, ne_eq, Nat.reduceBNe, Nat.reduceBEq, IntKind.signed, Nat.reduceEqDiff, Nat.reduceLeDiff, Nat.reduceLT, eq_self, Int.reduceEq, Int.reduceLT, Int.reduceLE, Int.reduceAdd, Int.reduceSub, VC.regC_nil, VC.regC_cons, VC.regCK_eq, VC.callQ, VC.tailQ, VC.goCall, VC.chStep]
    subst hQ; simp -dsimp only [VC.Now, VC.vc_skip, VC.vc_ret, VC.vc_exit, VC.vc_block, VC.vc_cond, VC.vc_region, VC.lib, VC.regQ, VC.loopK, VC.reg, VC.opP, VC.pv, VC.thenF, VC.blkF, VC.retF, VC.resV, VC.oneV, VC.evo, VC.bin, VC.binI, VC.cmpI, VC.arithI, VC.ldv, VC.slv, VC.pickP, VC.holds, VC.chainOf, VC.look, VC.junk, VC.put, VC.eff, VC.callee, VC.pureB, VC.rdK, VC.rdKs, VC.okKs, VC.eqKs, VC.fillL, VC.putL, VC.stW, VC.stOK, VC.mixF, VC.setAll, Nat.reduceAdd, Nat.reduceSub, Nat.reduceMul, if_true, if_false, ↓reduceIte, forall_const, implies_true, reduceCtorEq, ne_eq, Nat.reduceBNe, Nat.reduceBEq, IntKind.signed, Nat.reduceEqDiff, Nat.reduceLeDiff, Nat.reduceLT, eq_self, Int.reduceEq, Int.reduceLT, Int.reduceLE, Int.reduceAdd, Int.reduceSub, VC.regC_nil, VC.regC_cons, VC.regCK_eq, VC.callQ, VC.tailQ, VC.goCall, VC.chStep]; (repeat rw [vc_seq]); refine vc_plain _ fun Q hQ => ?_; simp -dsimp only [Fa.F81, VC.Now, VC.vc_skip, VC.vc_ret, VC.vc_exit, VC.vc_block, VC.vc_cond, VC.vc_region, VC.lib, VC.regQ, VC.loopK, VC.reg, VC.opP, VC.pv, VC.thenF, VC.blkF, VC.retF, VC.resV, VC.oneV, VC.evo, VC.bin, VC.binI, VC.cmpI, VC.arithI, VC.ldv, VC.slv, VC.pickP, VC.holds, VC.chainOf, VC.look, VC.junk, VC.put, VC.eff, VC.callee, VC.pureB, VC.rdK, VC.rdKs, VC.okKs, VC.eqKs, VC.fillL, VC.putL, VC.stW, VC.stOK, VC.mixF, VC.setAll, Nat.reduceAdd, Nat.reduceSub, Nat.reduceMul, if_true, if_false, ↓reduceIte, forall_const, implies_true, reduceCtorEq, ne_eq, Nat.reduceBNe, Nat.reduceBEq, IntKind.signed, Nat.reduceEqDiff, Nat.reduceLeDiff, Nat.reduceLT, eq_self, Int.reduceEq, Int.reduceLT, Int.reduceLE, Int.reduceAdd, Int.reduceSub, VC.regC_nil, VC.regC_cons, VC.regCK_eq, VC.callQ, VC.tailQ, VC.goCall, VC.chStep]
    refine CALL_of (full_any A len c sb who reg wr val fr to l v _ w (hr.below hB) hS.box h8 h32) fun w2 hB2 => ?_
    rw [hfull]
    have hS2 := hS.below hB2
    have hBw2 := hB.trans (hB2.mono hB.size)
    have hsb2 := hS2.box.1
    have q0 := hS2.box.at (i := 0) rfl
    simp -dsimp only [Fa.F81, VC.Now, VC.vc_skip, VC.vc_ret, VC.vc_exit, VC.vc_block, VC.vc_cond, VC.vc_region, VC.lib, VC.regQ, VC.loopK, VC.reg, VC.opP, VC.pv, VC.thenF, VC.blkF, VC.retF, VC.resV, VC.oneV, VC.evo, VC.bin, VC.binI, VC.cmpI, VC.arithI, VC.ldv, VC.slv, VC.pickP, VC.holds, VC.chainOf, VC.look, VC.junk, VC.put, VC.eff, VC.callee, VC.pureB, VC.rdK, VC.rdKs, VC.okKs, VC.eqKs, VC.fillL, VC.putL, VC.stW, VC.stOK, VC.mixF, VC.setAll, Nat.reduceAdd, Nat.reduceSub, Nat.reduceMul, if_true, if_false, ↓reduceIte, forall_const, implies_true, reduceCtorEq, ne_eq, Nat.reduceBNe, Nat.reduceBEq, IntKind.signed, Nat.reduceEqDiff, Nat.reduceLeDiff, Nat.reduceLT, eq_self, Int.reduceEq, Int.reduceLT, Int.reduceLE, Int.reduceAdd, Int.reduceSub, VC.regC_nil, VC.regC_cons, VC.regCK_eq, VC.callQ, VC.tailQ, VC.goCall, VC.chStep]
    subst hQ; simp -dsimp only [VC.Now, VC.vc_skip, VC.vc_ret, VC.vc_exit, VC.vc_block, VC.vc_cond, VC.vc_region, VC.lib, VC.regQ, VC.loopK, VC.reg, VC.opP, VC.pv, VC.thenF, VC.blkF, VC.retF, VC.resV, VC.oneV, VC.evo, VC.bin, VC.binI, VC.cmpI, VC.arithI, VC.ldv, VC.slv, VC.pickP, VC.holds, VC.chainOf, VC.look, VC.junk, VC.put, VC.eff, VC.callee, VC.pureB, VC.rdK, VC.rdKs, VC.okKs, VC.eqKs, VC.fillL, VC.putL, VC.stW, VC.stOK, VC.mixF, VC.setAll, Nat.reduceAdd, Nat.reduceSub, Nat.reduceMul, if_true, if_false, ↓reduceIte, forall_const, implies_true, reduceCtorEq, ne_eq, Nat.reduceBNe, Nat.reduceBEq, IntKind.signed, Nat.reduceEqDiff, Nat.reduceLeDiff, Nat.reduceLT, eq_self, Int.reduceEq, Int.reduceLT, Int.reduceLE, Int.reduceAdd, Int.reduceSub, VC.regC_nil, VC.regC_cons, VC.regCK_eq, VC.callQ, VC.tailQ, VC.goCall, VC.chStep]; (repeat rw [vc_seq]); refine vc_plain _ fun Q hQ => ?_; simp -dsimp only [Fa.F81, VC.Now, VC.vc_skip, VC.vc_ret, VC.vc_exit, VC.vc_block, VC.vc_cond, VC.vc_region, VC.lib, VC.regQ, VC.loopK, VC.reg, VC.opP, VC.pv, VC.thenF, VC.blkF, VC.retF, VC.resV, VC.oneV, VC.evo, VC.bin, VC.binI, VC.cmpI, VC.arithI, VC.ldv, VC.slv, VC.pickP, VC.holds, VC.chainOf, VC.look, VC.junk, VC.put, VC.eff, VC.callee, VC.pureB, VC.rdK, VC.rdKs, VC.okKs, VC.eqKs, VC.fillL, VC.putL, VC.stW, VC.stOK, VC.mixF, VC.setAll, Nat.reduceAdd, Nat.reduceSub, Nat.reduceMul, if_true, if_false, ↓reduceIte, forall_const, implies_true, reduceCtorEq, ne_eq, Nat.reduceBNe, Nat.reduceBEq, IntKind.signed, Nat.reduceEqDiff, Nat.reduceLeDiff, Nat.reduceLT, eq_self, Int.reduceEq, Int.reduceLT, Int.reduceLE, Int.reduceAdd, Int.reduceSub, VC.regC_nil, VC.regC_cons, VC.regCK_eq, VC.callQ, VC.tailQ, VC.goCall, VC.chStep]
    subst hQ
    simp -dsimp only [Fa.F81, rdSA_of q0, rdSN_of q0, rdSC_of q0, q0, VC.Now, VC.vc, VC.lib, VC.regQ, VC.loopK, VC.reg, VC.opP, VC.pv, VC.thenF, VC.blkF, VC.retF, VC.resV, VC.oneV, VC.evo, VC.bin, VC.binI, VC.cmpI, VC.arithI, VC.ldv, VC.slv, VC.pickP, VC.holds, VC.chainOf, VC.look, VC.junk, VC.put, VC.eff, VC.callee, VC.pureB, VC.rdK, VC.rdKs, VC.okKs, VC.eqKs, VC.fillL, VC.putL, VC.stW, VC.stOK, VC.mixF, VC.setAll, Nat.reduceAdd, Nat.reduceSub, Nat.reduceMul, if_true, if_false, ↓reduceIte, forall_const, implies_true, reduceCtorEq, ne_eq, Nat.reduceBNe, Nat.reduceBEq, IntKind.signed, Nat.reduceEqDiff, Nat.reduceLeDiff, Nat.reduceLT, eq_self, Int.reduceEq, Int.reduceLT, Int.reduceLE, Int.reduceAdd, Int.reduceSub, VC.regC_nil, VC.regC_cons, VC.regCK_eq, VC.callQ, VC.tailQ, VC.goCall, VC.chStep]
    refine loop_slots Fa.mix [13] [2, 3, 4, 5, 14, 15, 16, 17, 18, 19, 20, 21, 22, 23, 24, 25, 26, 27, 28, 29, 30, 31, 32, 33, 34, 35, 36, 37, 38, 39, 40, 41, 42, 43, 44, 45, 46, 47, 48, 49, 50, 51, 52, 53, 54, 55, 56, 57, 58, 59, 60, 61, 62, 63, 64, 65, 66, 67, 68, 69, 70, 71, 72, 73, 74, 75, 76, 77, 78, 79, 80, 81, 82, 83, 84] (fun m vs wx => ∃ k : Nat, k + m = len ∧ vs = [.int .i64 k] ∧ (∀ i, i < k → g i = none) ∧
        ∃ v', StF w1.heap.size A len c sb reg wr val l v' wx ∧ Stays w v v' ∧ Agree (fun k => k = sb ∨ v.ownBlock = some k) w wx) len (by kernel_rfl) rfl
      ⟨0, by omega, rfl, fun k hk => absurd hk (by omega), v, hS2, Or.inl rfl, Agree.of_below hB2⟩ ?_
    rintro m vs u wx ⟨k, hkm, rfl, h0, v', hSx, hst, hag⟩
    have hvlow : ∀ j, (j = sb ∨ v.ownBlock = some j) → w1.heap.size ≤ j := fun j hj => by
      rcases hj with h | h
      · omega
      · exact (hS.own.lt h).1
    have hBx : Below w1.heap.size w1 wx := hag.to_below hB hB.size hvlow
    have hsbx : sb < wx.heap.size := hSx.box.1
    by_cases hk : k < len
    · have e1 : ((k : Int) < len) = True := eq_true (by omega)
      obtain ⟨b, o, rfl, hb, hc⟩ := (hr.below hBx) (by omega)
      obtain ⟨c1, c2, c3, c4, c5, c6⟩ := hc k hk
      obtain ⟨ρ, hρ⟩ : ∃ ρ : Nat, reg k = ρ := ⟨(reg k).toNat, by have := hrg k hk; omega⟩
      have hρ4 : ρ < 4 := by have := hrg k hk; omega
      simp -dsimp only [VC.Now, VC.vc_skip, VC.vc_ret, VC.vc_exit, VC.vc_block, VC.vc_cond, VC.vc_region, VC.lib, VC.regQ, VC.loopK, VC.reg, VC.opP, VC.pv, VC.thenF, VC.blkF, VC.retF, VC.resV, VC.oneV, VC.evo, VC.bin, VC.binI, VC.cmpI, VC.arithI, VC.ldv, VC.slv, VC.pickP, VC.holds, VC.chainOf, VC.look, VC.junk, VC.put, VC.eff, VC.callee, VC.pureB, VC.rdK, VC.rdKs, VC.okKs, VC.eqKs, VC.fillL, VC.putL, VC.stW, VC.stOK, VC.mixF, VC.setAll, Nat.reduceAdd, Nat.reduceSub, Nat.reduceMul, if_true, if_false, ↓reduceIte, forall_const, implies_true, reduceCtorEq, ne_eq, Nat.reduceBNe, Nat.reduceBEq, IntKind.signed, Nat.reduceEqDiff, Nat.reduceLeDiff, Nat.reduceLT, eq_self, Int.reduceEq, Int.reduceLT, Int.reduceLE, Int.reduceAdd, Int.reduceSub, VC.regC_nil, VC.regC_cons, VC.regCK_eq, VC.callQ, VC.tailQ, VC.goCall, VC.chStep]
      (repeat rw [vc_seq]); refine vc_plain _ fun Q hQ => ?_; simp -dsimp only [Fa.F81, e1, VC.Now, VC.vc_skip, VC.vc_ret, VC.vc_exit, VC.vc_block, VC.vc_cond, VC.vc_region, VC.lib, VC.regQ, VC.loopK, VC.reg, VC.opP, VC.pv, VC.thenF, VC.blkF, VC.retF, VC.resV, VC.oneV, VC.evo, VC.bin, VC.binI, VC.cmpI, VC.arithI, VC.ldv, VC.slv, VC.pickP, VC.holds, VC.chainOf, VC.look, VC.junk, VC.put, VC.eff, VC.callee, VC.pureB, VC.rdK, VC.rdKs, VC.okKs, VC.eqKs, VC.fillL, VC.putL, VC.stW, VC.stOK, VC.mixF, VC.setAll, Nat.reduceAdd, Nat.reduceSub, Nat.reduceMul, if_true, if_false, ↓reduceIte, forall_const, implies_true, reduceCtorEq, ne_eq, Nat.reduceBNe, Nat.reduceBEq, IntKind.signed, Nat.reduceEqDiff, Nat.reduceLeDiff, Nat.reduceLT, eq_self, Int.reduceEq, Int.reduceLT, Int.reduceLE, Int.reduceAdd, Int.reduceSub, VC.regC_nil, VC.regC_cons, VC.regCK_eq, VC.callQ, VC.tailQ, VC.goCall, VC.chStep]
      subst hQ; simp -dsimp only [VC.Now, VC.vc_skip, VC.vc_ret, VC.vc_exit, VC.vc_block, VC.vc_cond, VC.vc_region, VC.lib, VC.regQ, VC.loopK, VC.reg, VC.opP, VC.pv, VC.thenF, VC.blkF, VC.retF, VC.resV, VC.oneV, VC.evo, VC.bin, VC.binI, VC.cmpI, VC.arithI, VC.ldv, VC.slv, VC.pickP, VC.holds, VC.chainOf, VC.look, VC.junk, VC.put, VC.eff, VC.callee, VC.pureB, VC.rdK, VC.rdKs, VC.okKs, VC.eqKs, VC.fillL, VC.putL, VC.stW, VC.stOK, VC.mixF, VC.setAll, Nat.reduceAdd, Nat.reduceSub, Nat.reduceMul, if_true, if_false, ↓reduceIte, forall_const, implies_true, reduceCtorEq, ne_eq, Nat.reduceBNe, Nat.reduceBEq, IntKind.signed, Nat.reduceEqDiff, Nat.reduceLeDiff, Nat.reduceLT, eq_self, Int.reduceEq, Int.reduceLT, Int.reduceLE, Int.reduceAdd, Int.reduceSub, VC.regC_nil, VC.regC_cons, VC.regCK_eq, VC.callQ, VC.tailQ, VC.goCall, VC.chStep]; (repeat rw [vc_seq]); refine vc_plain _ fun Q hQ => ?_; simp -dsimp only [Fa.F81, VC.Now, VC.vc_skip, VC.vc_ret, VC.vc_exit, VC.vc_block, VC.vc_cond, VC.vc_region, VC.lib, VC.regQ, VC.loopK, VC.reg, VC.opP, VC.pv, VC.thenF, VC.blkF, VC.retF, VC.resV, VC.oneV, VC.evo, VC.bin, VC.binI, VC.cmpI, VC.arithI, VC.ldv, VC.slv, VC.pickP, VC.holds, VC.chainOf, VC.look, VC.junk, VC.put, VC.eff, VC.callee, VC.pureB, VC.rdK, VC.rdKs, VC.okKs, VC.eqKs, VC.fillL, VC.putL, VC.stW, VC.stOK, VC.mixF, VC.setAll, Nat.reduceAdd, Nat.reduceSub, Nat.reduceMul, if_true, if_false, ↓reduceIte, forall_const, implies_true, reduceCtorEq, ne_eq, Nat.reduceBNe, Nat.reduceBEq, IntKind.signed, Nat.reduceEqDiff, Nat.reduceLeDiff, Nat.reduceLT, eq_self, Int.reduceEq, Int.reduceLT, Int.reduceLE, Int.reduceAdd, Int.reduceSub, VC.regC_nil, VC.regC_cons, VC.regCK_eq, VC.callQ, VC.tailQ, VC.goCall, VC.chStep]
      subst hQ; simp -dsimp only [VC.Now, VC.vc_skip, VC.vc_ret, VC.vc_exit, VC.vc_block, VC.vc_cond, VC.vc_region, VC.lib, VC.regQ, VC.loopK, VC.reg, VC.opP, VC.pv, VC.thenF, VC.blkF, VC.retF, VC.resV, VC.oneV, VC.evo, VC.bin, VC.binI, VC.cmpI, VC.arithI, VC.ldv, VC.slv, VC.pickP, VC.holds, VC.chainOf, VC.look, VC.junk, VC.put, VC.eff, VC.callee, VC.pureB, VC.rdK, VC.rdKs, VC.okKs, VC.eqKs, VC.fillL, VC.putL, VC.stW, VC.stOK, VC.mixF, VC.setAll, Nat.reduceAdd, Nat.reduceSub, Nat.reduceMul, if_true, if_false, ↓reduceIte, forall_const, implies_true, reduceCtorEq, ne_eq, Nat.reduceBNe, Nat.reduceBEq, IntKind.signed, Nat.reduceEqDiff, Nat.reduceLeDiff, Nat.reduceLT, eq_self, Int.reduceEq, Int.reduceLT, Int.reduceLE, Int.reduceAdd, Int.reduceSub, VC.regC_nil, VC.regC_cons, VC.regCK_eq, VC.callQ, VC.tailQ, VC.goCall, VC.chStep]; (repeat rw [vc_seq]); refine vc_plain _ fun Q hQ => ?_; simp -dsimp only [Fa.F81, e1, VC.Now, VC.vc_skip, VC.vc_ret, VC.vc_exit, VC.vc_block, VC.vc_cond, VC.vc_region, VC.lib, VC.regQ, VC.loopK, VC.reg, VC.opP, VC.pv, VC.thenF, VC.blkF, VC.retF, VC.resV, VC.oneV, VC.evo, VC.bin, VC.binI, VC.cmpI, VC.arithI, VC.ldv, VC.slv, VC.pickP, VC.holds, VC.chainOf, VC.look, VC.junk, VC.put, VC.eff, VC.callee, VC.pureB, VC.rdK, VC.rdKs, VC.okKs, VC.eqKs, VC.fillL, VC.putL, VC.stW, VC.stOK, VC.mixF, VC.setAll, Nat.reduceAdd, Nat.reduceSub, Nat.reduceMul, if_true, if_false, ↓reduceIte, forall_const, implies_true, reduceCtorEq, ne_eq, Nat.reduceBNe, Nat.reduceBEq, IntKind.signed, Nat.reduceEqDiff, Nat.reduceLeDiff, Nat.reduceLT, eq_self, Int.reduceEq, Int.reduceLT, Int.reduceLE, Int.reduceAdd, Int.reduceSub, VC.regC_nil, VC.regC_cons, VC.regCK_eq, VC.callQ, VC.tailQ, VC.goCall, VC.chStep]
      (repeat rw [vc_seq]); refine vc_plain _ fun Q2 hQ2 => ?_; simp -dsimp only [Fa.F81, e1, rdI_of c1, c1, rdI_of c2, c2, rdB_of c3, c3, rdI_of c4, c4, rdI_of c5, c5, rdI_of c6, c6, VC.Now, VC.vc_skip, VC.vc_ret, VC.vc_exit, VC.vc_block, VC.vc_cond, VC.vc_region, VC.lib, VC.regQ, VC.loopK, VC.reg, VC.opP, VC.pv, VC.thenF, VC.blkF, VC.retF, VC.resV, VC.oneV, VC.evo, VC.bin, VC.binI, VC.cmpI, VC.arithI, VC.ldv, VC.slv, VC.pickP, VC.holds, VC.chainOf, VC.look, VC.junk, VC.put, VC.eff, VC.callee, VC.pureB, VC.rdK, VC.rdKs, VC.okKs, VC.eqKs, VC.fillL, VC.putL, VC.stW, VC.stOK, VC.mixF, VC.setAll, Nat.reduceAdd, Nat.reduceSub, Nat.reduceMul, if_true, if_false, ↓reduceIte, forall_const, implies_true, reduceCtorEq, ne_eq, Nat.reduceBNe, Nat.reduceBEq, IntKind.signed, Nat.reduceEqDiff, Nat.reduceLeDiff, Nat.reduceLT, eq_self, Int.reduceEq, Int.reduceLT, Int.reduceLE, Int.reduceAdd, Int.reduceSub, VC.regC_nil, VC.regC_cons, VC.regCK_eq, VC.callQ, VC.tailQ, VC.goCall, VC.chStep]
      refine ⟨by omega, ?_⟩
      generalize hwy : wx.alloc (.cells #[.int .i64 (who k), .int .i64 (reg k), .bool (wr k), .int .i64 (val k), .int .i64 (fr k), .int .i64 (to k)] 161) = wy
      have hBy : Below wx.heap.size wx wy := by rw [← hwy]; exact below_box (Below.refl _ _) _
      have hsy : wy.heap.size = wx.heap.size + 1 := by rw [← hwy]; simp
      have by' : Box wy wx.heap.size (opC (who k) (reg k) (wr k) (val k) (fr k) (to k)) := by rw [← hwy]; exact Box.new wx _ _
      clear hwy c1 c2 c3 c4 c5 c6 hc
      have hSy := hSx.below hBy
      have hBwy := hBx.trans (hBy.mono hBx.size)
      subst hQ2; simp -dsimp only [VC.Now, VC.vc_skip, VC.vc_ret, VC.vc_exit, VC.vc_block, VC.vc_cond, VC.vc_region, VC.lib, VC.regQ, VC.loopK, VC.reg, VC.opP, VC.pv, VC.thenF, VC.blkF, VC.retF, VC.resV, VC.oneV, VC.evo, VC.bin, VC.binI, VC.cmpI, VC.arithI, VC.ldv, VC.slv, VC.pickP, VC.holds, VC.chainOf, VC.look, VC.junk, VC.put, VC.eff, VC.callee, VC.pureB, VC.rdK, VC.rdKs, VC.okKs, VC.eqKs, VC.fillL, VC.putL, VC.stW, VC.stOK, VC.mixF, VC.setAll, Nat.reduceAdd, Nat.reduceSub, Nat.reduceMul, if_true, if_false, ↓reduceIte, forall_const, implies_true, reduceCtorEq, ne_eq, Nat.reduceBNe, Nat.reduceBEq, IntKind.signed, Nat.reduceEqDiff, Nat.reduceLeDiff, Nat.reduceLT, eq_self, Int.reduceEq, Int.reduceLT, Int.reduceLE, Int.reduceAdd, Int.reduceSub, VC.regC_nil, VC.regC_cons, VC.regCK_eq, VC.callQ, VC.tailQ, VC.goCall, VC.chStep]; (repeat rw [vc_seq]); refine vc_plain _ fun Q2 hQ2 => ?_; simp -dsimp only [Fa.F81, VC.Now, VC.vc_skip, VC.vc_ret, VC.vc_exit, VC.vc_block, VC.vc_cond, VC.vc_region, VC.lib, VC.regQ, VC.loopK, VC.reg, VC.opP, VC.pv, VC.thenF, VC.blkF, VC.retF, VC.resV, VC.oneV, VC.evo, VC.bin, VC.binI, VC.cmpI, VC.arithI, VC.ldv, VC.slv, VC.pickP, VC.holds, VC.chainOf, VC.look, VC.junk, VC.put, VC.eff, VC.callee, VC.pureB, VC.rdK, VC.rdKs, VC.okKs, VC.eqKs, VC.fillL, VC.putL, VC.stW, VC.stOK, VC.mixF, VC.setAll, Nat.reduceAdd, Nat.reduceSub, Nat.reduceMul, if_true, if_false, ↓reduceIte, forall_const, implies_true, reduceCtorEq, ne_eq, Nat.reduceBNe, Nat.reduceBEq, IntKind.signed, Nat.reduceEqDiff, Nat.reduceLeDiff, Nat.reduceLT, eq_self, Int.reduceEq, Int.reduceLT, Int.reduceLE, Int.reduceAdd, Int.reduceSub, VC.regC_nil, VC.regC_cons, VC.regCK_eq, VC.callQ, VC.tailQ, VC.goCall, VC.chStep]
      refine CALL_of (may_any _ len c sb k who reg wr val fr to l v' wy (hr.below hBwy) hSy.box h8 h32 hk (hrg k hk)) fun w5 hB5 => ?_
      have hS5 := hSy.below hB5
      have hBw5 := hBwy.trans (hB5.mono hBwy.size)
      have hBx5 : Below wx.heap.size wx w5 := hBy.trans (hB5.mono hBy.size)
      have hs5 := hB5.size
      have ho5 := by'.below hB5
      cases hmay : mayB len reg wr val fr to l k with
      | false =>
        simp -dsimp only [Fa.F81, VC.Now, VC.vc_skip, VC.vc_ret, VC.vc_exit, VC.vc_block, VC.vc_cond, VC.vc_region, VC.lib, VC.regQ, VC.loopK, VC.reg, VC.opP, VC.pv, VC.thenF, VC.blkF, VC.retF, VC.resV, VC.oneV, VC.evo, VC.bin, VC.binI, VC.cmpI, VC.arithI, VC.ldv, VC.slv, VC.pickP, VC.holds, VC.chainOf, VC.look, VC.junk, VC.put, VC.eff, VC.callee, VC.pureB, VC.rdK, VC.rdKs, VC.okKs, VC.eqKs, VC.fillL, VC.putL, VC.stW, VC.stOK, VC.mixF, VC.setAll, Nat.reduceAdd, Nat.reduceSub, Nat.reduceMul, if_true, if_false, ↓reduceIte, forall_const, implies_true, reduceCtorEq, ne_eq, Nat.reduceBNe, Nat.reduceBEq, IntKind.signed, Nat.reduceEqDiff, Nat.reduceLeDiff, Nat.reduceLT, eq_self, Int.reduceEq, Int.reduceLT, Int.reduceLE, Int.reduceAdd, Int.reduceSub, VC.regC_nil, VC.regC_cons, VC.regCK_eq, VC.callQ, VC.tailQ, VC.goCall, VC.chStep]
        have hgk : g k = none := by rw [← hg]; simp only []; rw [if_neg (by rw [hmay]; simp)]
        subst hQ2
        simp -dsimp only [VC.Now, VC.vc_skip, VC.vc_ret, VC.vc_exit, VC.vc_block, VC.vc_cond, VC.vc_region, VC.lib, VC.regQ, VC.loopK, VC.reg, VC.opP, VC.pv, VC.thenF, VC.blkF, VC.retF, VC.resV, VC.oneV, VC.evo, VC.bin, VC.binI, VC.cmpI, VC.arithI, VC.ldv, VC.slv, VC.pickP, VC.holds, VC.chainOf, VC.look, VC.junk, VC.put, VC.eff, VC.callee, VC.pureB, VC.rdK, VC.rdKs, VC.okKs, VC.eqKs, VC.fillL, VC.putL, VC.stW, VC.stOK, VC.mixF, VC.setAll, Nat.reduceAdd, Nat.reduceSub, Nat.reduceMul, if_true, if_false, ↓reduceIte, forall_const, implies_true, reduceCtorEq, ne_eq, Nat.reduceBNe, Nat.reduceBEq, IntKind.signed, Nat.reduceEqDiff, Nat.reduceLeDiff, Nat.reduceLT, eq_self, Int.reduceEq, Int.reduceLT, Int.reduceLE, Int.reduceAdd, Int.reduceSub, VC.regC_nil, VC.regC_cons, VC.regCK_eq, VC.callQ, VC.tailQ, VC.goCall, VC.chStep]
        subst hQ
        simp -dsimp only [Fa.F81, VC.Now, VC.vc_skip, VC.vc_ret, VC.vc_exit, VC.vc_block, VC.vc_cond, VC.vc_region, VC.lib, VC.regQ, VC.loopK, VC.reg, VC.opP, VC.pv, VC.thenF, VC.blkF, VC.retF, VC.resV, VC.oneV, VC.evo, VC.bin, VC.binI, VC.cmpI, VC.arithI, VC.ldv, VC.slv, VC.pickP, VC.holds, VC.chainOf, VC.look, VC.junk, VC.put, VC.eff, VC.callee, VC.pureB, VC.rdK, VC.rdKs, VC.okKs, VC.eqKs, VC.fillL, VC.putL, VC.stW, VC.stOK, VC.mixF, VC.setAll, Nat.reduceAdd, Nat.reduceSub, Nat.reduceMul, if_true, if_false, ↓reduceIte, forall_const, implies_true, reduceCtorEq, ne_eq, Nat.reduceBNe, Nat.reduceBEq, IntKind.signed, Nat.reduceEqDiff, Nat.reduceLeDiff, Nat.reduceLT, eq_self, Int.reduceEq, Int.reduceLT, Int.reduceLE, Int.reduceAdd, Int.reduceSub, VC.regC_nil, VC.regC_cons, VC.regCK_eq, VC.callQ, VC.tailQ, VC.goCall, VC.chStep]
        refine ⟨fits_i64_nat (by omega), SAME.intro (by kernel_rfl), m - 1, by omega, k + 1, by omega, rfl, fun i hi => ?_, v', hS5, hst, hag.trans (Agree.of_below hBx5)⟩
        rcases Nat.lt_or_ge i k with h | h
        · exact h0 i h
        · obtain rfl : i = k := by omega
          exact hgk
      | true =>
        simp -dsimp only [Fa.F81, VC.Now, VC.vc_skip, VC.vc_ret, VC.vc_exit, VC.vc_block, VC.vc_cond, VC.vc_region, VC.lib, VC.regQ, VC.loopK, VC.reg, VC.opP, VC.pv, VC.thenF, VC.blkF, VC.retF, VC.resV, VC.oneV, VC.evo, VC.bin, VC.binI, VC.cmpI, VC.arithI, VC.ldv, VC.slv, VC.pickP, VC.holds, VC.chainOf, VC.look, VC.junk, VC.put, VC.eff, VC.callee, VC.pureB, VC.rdK, VC.rdKs, VC.okKs, VC.eqKs, VC.fillL, VC.putL, VC.stW, VC.stOK, VC.mixF, VC.setAll, Nat.reduceAdd, Nat.reduceSub, Nat.reduceMul, if_true, if_false, ↓reduceIte, forall_const, implies_true, reduceCtorEq, ne_eq, Nat.reduceBNe, Nat.reduceBEq, IntKind.signed, Nat.reduceEqDiff, Nat.reduceLeDiff, Nat.reduceLT, eq_self, Int.reduceEq, Int.reduceLT, Int.reduceLE, Int.reduceAdd, Int.reduceSub, VC.regC_nil, VC.regC_cons, VC.regCK_eq, VC.callQ, VC.tailQ, VC.goCall, VC.chStep]
        have hnin : k ∉ l := by
          unfold mayB at hmay
          simp at hmay
          exact hmay.1.1
        have hgk : g k = dfs len reg wr val fr to f (l ++ [k]) := by rw [← hg]; simp only []; rw [if_pos hmay]
        have r0 := hS5.box.at (i := 3) rfl
        have r1 := hS5.box.at (i := 4) rfl
        have r2 := hS5.box.at (i := 5) rfl
        have r3 := hS5.box.at (i := 6) rfl
        subst hQ2; simp -dsimp only [VC.Now, VC.vc_skip, VC.vc_ret, VC.vc_exit, VC.vc_block, VC.vc_cond, VC.vc_region, VC.lib, VC.regQ, VC.loopK, VC.reg, VC.opP, VC.pv, VC.thenF, VC.blkF, VC.retF, VC.resV, VC.oneV, VC.evo, VC.bin, VC.binI, VC.cmpI, VC.arithI, VC.ldv, VC.slv, VC.pickP, VC.holds, VC.chainOf, VC.look, VC.junk, VC.put, VC.eff, VC.callee, VC.pureB, VC.rdK, VC.rdKs, VC.okKs, VC.eqKs, VC.fillL, VC.putL, VC.stW, VC.stOK, VC.mixF, VC.setAll, Nat.reduceAdd, Nat.reduceSub, Nat.reduceMul, if_true, if_false, ↓reduceIte, forall_const, implies_true, reduceCtorEq, ne_eq, Nat.reduceBNe, Nat.reduceBEq, IntKind.signed, Nat.reduceEqDiff, Nat.reduceLeDiff, Nat.reduceLT, eq_self, Int.reduceEq, Int.reduceLT, Int.reduceLE, Int.reduceAdd, Int.reduceSub, VC.regC_nil, VC.regC_cons, VC.regCK_eq, VC.callQ, VC.tailQ, VC.goCall, VC.chStep]; (repeat rw [vc_seq]); refine vc_plain _ fun Q2 hQ2 => ?_; simp -dsimp only [Fa.F81, VC.Now, VC.vc_skip, VC.vc_ret, VC.vc_exit, VC.vc_block, VC.vc_cond, VC.vc_region, VC.lib, VC.regQ, VC.loopK, VC.reg, VC.opP, VC.pv, VC.thenF, VC.blkF, VC.retF, VC.resV, VC.oneV, VC.evo, VC.bin, VC.binI, VC.cmpI, VC.arithI, VC.ldv, VC.slv, VC.pickP, VC.holds, VC.chainOf, VC.look, VC.junk, VC.put, VC.eff, VC.callee, VC.pureB, VC.rdK, VC.rdKs, VC.okKs, VC.eqKs, VC.fillL, VC.putL, VC.stW, VC.stOK, VC.mixF, VC.setAll, Nat.reduceAdd, Nat.reduceSub, Nat.reduceMul, if_true, if_false, ↓reduceIte, forall_const, implies_true, reduceCtorEq, ne_eq, Nat.reduceBNe, Nat.reduceBEq, IntKind.signed, Nat.reduceEqDiff, Nat.reduceLeDiff, Nat.reduceLT, eq_self, Int.reduceEq, Int.reduceLT, Int.reduceLE, Int.reduceAdd, Int.reduceSub, VC.regC_nil, VC.regC_cons, VC.regCK_eq, VC.callQ, VC.tailQ, VC.goCall, VC.chStep]
        subst hQ2
        simp -dsimp only [Fa.F81, rdI_of r0, r0, rdI_of r1, r1, rdI_of r2, r2, rdI_of r3, r3, VC.Now, VC.vc_skip, VC.vc_ret, VC.vc_exit, VC.vc_block, VC.vc_cond, VC.vc_region, VC.lib, VC.regQ, VC.loopK, VC.reg, VC.opP, VC.pv, VC.thenF, VC.blkF, VC.retF, VC.resV, VC.oneV, VC.evo, VC.bin, VC.binI, VC.cmpI, VC.arithI, VC.ldv, VC.slv, VC.pickP, VC.holds, VC.chainOf, VC.look, VC.junk, VC.put, VC.eff, VC.callee, VC.pureB, VC.rdK, VC.rdKs, VC.okKs, VC.eqKs, VC.fillL, VC.putL, VC.stW, VC.stOK, VC.mixF, VC.setAll, Nat.reduceAdd, Nat.reduceSub, Nat.reduceMul, if_true, if_false, ↓reduceIte, forall_const, implies_true, reduceCtorEq, ne_eq, Nat.reduceBNe, Nat.reduceBEq, IntKind.signed, Nat.reduceEqDiff, Nat.reduceLeDiff, Nat.reduceLT, eq_self, Int.reduceEq, Int.reduceLT, Int.reduceLE, Int.reduceAdd, Int.reduceSub, VC.regC_nil, VC.regC_cons, VC.regCK_eq, VC.callQ, VC.tailQ, VC.goCall, VC.chStep]
        generalize hwa : w5.alloc (.cells #[.int .i64 (rgs reg wr val l 0), .int .i64 (rgs reg wr val l 1), .int .i64 (rgs reg wr val l 2), .int .i64 (rgs reg wr val l 3)] 156) = wa
        have hBa : Below w5.heap.size w5 wa := by rw [← hwa]; exact below_box (Below.refl _ _) _
        have hsa : wa.heap.size = w5.heap.size + 1 := by rw [← hwa]; simp
        have bwas : Box wa w5.heap.size [.int .i64 (rgs reg wr val l 0), .int .i64 (rgs reg wr val l 1), .int .i64 (rgs reg wr val l 2), .int .i64 (rgs reg wr val l 3)] := by rw [← hwa]; exact Box.new w5 _ _
        clear hwa r0 r1 r2 r3
        have hSa := hS5.below hBa
        have hoa := ho5.below hBa
        have hsba := hSa.box.1
        have m1 := hSa.box.at (i := 1) rfl
        have m1s := hSa.box.soft (i := 1) (by show 1 < 7; decide)
        have hor := or_put (l := l) (i := k) h32 (by omega)
        (repeat rw [vc_seq]); refine vc_plain _ fun Q2 hQ2 => ?_; simp -dsimp only [Fa.F81, VC.Now, VC.vc_skip, VC.vc_ret, VC.vc_exit, VC.vc_block, VC.vc_cond, VC.vc_region, VC.lib, VC.regQ, VC.loopK, VC.reg, VC.opP, VC.pv, VC.thenF, VC.blkF, VC.retF, VC.resV, VC.oneV, VC.evo, VC.bin, VC.binI, VC.cmpI, VC.arithI, VC.ldv, VC.slv, VC.pickP, VC.holds, VC.chainOf, VC.look, VC.junk, VC.put, VC.eff, VC.callee, VC.pureB, VC.rdK, VC.rdKs, VC.okKs, VC.eqKs, VC.fillL, VC.putL, VC.stW, VC.stOK, VC.mixF, VC.setAll, Nat.reduceAdd, Nat.reduceSub, Nat.reduceMul, if_true, if_false, ↓reduceIte, forall_const, implies_true, reduceCtorEq, ne_eq, Nat.reduceBNe, Nat.reduceBEq, IntKind.signed, Nat.reduceEqDiff, Nat.reduceLeDiff, Nat.reduceLT, eq_self, Int.reduceEq, Int.reduceLT, Int.reduceLE, Int.reduceAdd, Int.reduceSub, VC.regC_nil, VC.regC_cons, VC.regCK_eq, VC.callQ, VC.tailQ, VC.goCall, VC.chStep]
        refine WP_held 9 (fun _ => False) (.take 0 (.take 1 (.take 2 (.take 3 (.take 4 (.take 5 (.take 6 (.one 7 (.take 8 (.one 9 .done)))))))))) Fa.mix (by kernel_rfl) rfl ?_
        simp -dsimp only [VC.heldF_done, VC.heldF_take, VC.heldF_one, VC.heldK_eq, VC.okRd, Fa.F81, rdI_of m1, m1, m1s, hor, VC.Now, VC.vc, VC.lib, VC.regQ, VC.loopK, VC.reg, VC.opP, VC.pv, VC.thenF, VC.blkF, VC.retF, VC.resV, VC.oneV, VC.evo, VC.bin, VC.binI, VC.cmpI, VC.arithI, VC.ldv, VC.slv, VC.pickP, VC.holds, VC.chainOf, VC.look, VC.junk, VC.put, VC.eff, VC.callee, VC.pureB, VC.rdK, VC.rdKs, VC.okKs, VC.eqKs, VC.fillL, VC.putL, VC.stW, VC.stOK, VC.mixF, VC.setAll, Nat.reduceAdd, Nat.reduceSub, Nat.reduceMul, if_true, if_false, ↓reduceIte, forall_const, implies_true, reduceCtorEq, ne_eq, Nat.reduceBNe, Nat.reduceBEq, IntKind.signed, Nat.reduceEqDiff, Nat.reduceLeDiff, Nat.reduceLT, eq_self, Int.reduceEq, Int.reduceLT, Int.reduceLE, Int.reduceAdd, Int.reduceSub, VC.regC_nil, VC.regC_cons, VC.regCK_eq, VC.callQ, VC.tailQ, VC.goCall, VC.chStep]
        refine ⟨hsba, by omega, Agree.of_below (below_drewN (Below.refl _ wa) 1), ?_⟩
        generalize hwb : (wa.drewN 1).setCell ⟨sb, 1, none⟩ (.int .u32 (msk (l ++ [k]) : Nat)) = wb
        have hBdr : Below wa.heap.size wa (wa.drewN 1) := below_drewN (Below.refl _ wa) 1
        have hsb' : wb.heap.size = wa.heap.size := by rw [← hwb]; simp
        have bxb : Box wb sb (stD (some ⟨b, o, none⟩) len c (msk (l ++ [k])) v' (rgs reg wr val l)) := by rw [← hwb]; exact (hSa.box.below hBdr).set 1 _
        have hagb : Agree (fun j => j = sb) wa wb := by rw [← hwb]; exact (Agree.of_below hBdr).trans (Agree.setCell _ _ rfl)
        have hownb : OwnK wb w1.heap.size 3 1 l.length v' (natO l) := by rw [← hwb]; exact (hSa.own.below hBdr).setCell hSa.far _
        have hwasb : Box wb w5.heap.size [.int .i64 (rgs reg wr val l 0), .int .i64 (rgs reg wr val l 1), .int .i64 (rgs reg wr val l 2), .int .i64 (rgs reg wr val l 3)] := bwas.agree hagb (by have := hS5.box.1; omega)
        have hob := hoa.agree hagb (by have := hSx.box.1; omega)
        clear hwb m1 m1s
        have m2 := bxb.at (i := 2) rfl
        have hBb : Below w1.heap.size w1 wb := hagb.to_below (hBw5.trans (hBa.mono hBw5.size)) (by have := hBw5.size; omega) (fun j hj => by omega)
        obtain ⟨Av, cv, hvv, _⟩ := id hownb
        rw [hvv] at m2
        subst hQ2
        simp -dsimp only [VC.Now, VC.vc_skip, VC.vc_ret, VC.vc_exit, VC.vc_block, VC.vc_cond, VC.vc_region, VC.lib, VC.regQ, VC.loopK, VC.reg, VC.opP, VC.pv, VC.thenF, VC.blkF, VC.retF, VC.resV, VC.oneV, VC.evo, VC.bin, VC.binI, VC.cmpI, VC.arithI, VC.ldv, VC.slv, VC.pickP, VC.holds, VC.chainOf, VC.look, VC.junk, VC.put, VC.eff, VC.callee, VC.pureB, VC.rdK, VC.rdKs, VC.okKs, VC.eqKs, VC.fillL, VC.putL, VC.stW, VC.stOK, VC.mixF, VC.setAll, Nat.reduceAdd, Nat.reduceSub, Nat.reduceMul, if_true, if_false, ↓reduceIte, forall_const, implies_true, reduceCtorEq, ne_eq, Nat.reduceBNe, Nat.reduceBEq, IntKind.signed, Nat.reduceEqDiff, Nat.reduceLeDiff, Nat.reduceLT, eq_self, Int.reduceEq, Int.reduceLT, Int.reduceLE, Int.reduceAdd, Int.reduceSub, VC.regC_nil, VC.regC_cons, VC.regCK_eq, VC.callQ, VC.tailQ, VC.goCall, VC.chStep]
        (repeat rw [vc_seq]); refine vc_plain _ fun Q2 hQ2 => ?_; simp -dsimp only [Fa.F81, rdSA_of m2, rdSN_of m2, rdSC_of m2, m2, VC.Now, VC.vc_skip, VC.vc_ret, VC.vc_exit, VC.vc_block, VC.vc_cond, VC.vc_region, VC.lib, VC.regQ, VC.loopK, VC.reg, VC.opP, VC.pv, VC.thenF, VC.blkF, VC.retF, VC.resV, VC.oneV, VC.evo, VC.bin, VC.binI, VC.cmpI, VC.arithI, VC.ldv, VC.slv, VC.pickP, VC.holds, VC.chainOf, VC.look, VC.junk, VC.put, VC.eff, VC.callee, VC.pureB, VC.rdK, VC.rdKs, VC.okKs, VC.eqKs, VC.fillL, VC.putL, VC.stW, VC.stOK, VC.mixF, VC.setAll, Nat.reduceAdd, Nat.reduceSub, Nat.reduceMul, if_true, if_false, ↓reduceIte, forall_const, implies_true, reduceCtorEq, ne_eq, Nat.reduceBNe, Nat.reduceBEq, IntKind.signed, Nat.reduceEqDiff, Nat.reduceLeDiff, Nat.reduceLT, eq_self, Int.reduceEq, Int.reduceLT, Int.reduceLE, Int.reduceAdd, Int.reduceSub, VC.regC_nil, VC.regC_cons, VC.regCK_eq, VC.callQ, VC.tailQ, VC.goCall, VC.chStep]
        have hsbb := bxb.1
        have hw1b : w1.heap.size ≤ wb.heap.size := hBb.size
        refine OPW_appK (v := v') rfl Fa.apI23 (by rw [hvv]; rfl) rfl rfl (by simp [oneCell_int]) hownb hw1b (by omega) (by decide) fun va wc h1 h2 h3 => ?_
        obtain ⟨gv, cva, rfl, _, _⟩ := h1.form (by omega)
        generalize hvae : Value.slice (some ⟨gv, 0, none⟩) (l.length + 1) cva = va at h1 h3
        have hagc : Agree (fun j => v'.ownBlock = some j) wb wc := Agree.grown h2 fun j hj => hj
        have hfv : ¬ v'.ownBlock = some sb := hSx.far
        have bxc := bxb.agree hagc hfv
        have hva : va.ownBlock ≠ some sb := by
          rcases h3 with e | ⟨j, e, hj⟩
          · rw [e]; exact hfv
          · rw [e]; intro e2; have : j = sb := Option.some.inj e2; omega
        have hfw : ¬ v'.ownBlock = some w5.heap.size := fun e => by have := (hS5.own.lt e).2; omega
        have hfo : ¬ v'.ownBlock = some wx.heap.size := fun e => by have := (hSx.own.lt e).2; omega
        have hwasc := hwasb.agree hagc hfw
        have hoc := hob.agree hagc hfo
        have m2c := bxc.at (i := 2) rfl
        have m2s := bxc.soft (i := 2) (by show 2 < 7; decide)
        have hsbc := bxc.1
        rw [hvv] at m2c
        clear m2
        subst hvae
        simp -dsimp only [Fa.F81, rdSA_of m2c, rdSN_of m2c, rdSC_of m2c, m2c, m2s, VC.Now, VC.vc_skip, VC.vc_ret, VC.vc_exit, VC.vc_block, VC.vc_cond, VC.vc_region, VC.lib, VC.regQ, VC.loopK, VC.reg, VC.opP, VC.pv, VC.thenF, VC.blkF, VC.retF, VC.resV, VC.oneV, VC.evo, VC.bin, VC.binI, VC.cmpI, VC.arithI, VC.ldv, VC.slv, VC.pickP, VC.holds, VC.chainOf, VC.look, VC.junk, VC.put, VC.eff, VC.callee, VC.pureB, VC.rdK, VC.rdKs, VC.okKs, VC.eqKs, VC.fillL, VC.putL, VC.stW, VC.stOK, VC.mixF, VC.setAll, Nat.reduceAdd, Nat.reduceSub, Nat.reduceMul, if_true, if_false, ↓reduceIte, forall_const, implies_true, reduceCtorEq, ne_eq, Nat.reduceBNe, Nat.reduceBEq, IntKind.signed, Nat.reduceEqDiff, Nat.reduceLeDiff, Nat.reduceLT, eq_self, Int.reduceEq, Int.reduceLT, Int.reduceLE, Int.reduceAdd, Int.reduceSub, VC.regC_nil, VC.regC_cons, VC.regCK_eq, VC.callQ, VC.tailQ, VC.goCall, VC.chStep]
        generalize hvae : Value.slice (some ⟨gv, 0, none⟩) (l.length + 1) cva = va at h1 h3 hva ⊢
        generalize hwd : wc.setCell ⟨sb, 2, none⟩ va = wd
        have hszd : wd.heap.size = wc.heap.size := by rw [← hwd]; simp
        have bxd : Box wd sb (stD (some ⟨b, o, none⟩) len c (msk (l ++ [k])) va (rgs reg wr val l)) := by rw [← hwd]; exact bxc.set 2 _
        have hagd : Agree (fun j => j = sb) wc wd := by rw [← hwd]; exact Agree.setCell _ _ rfl
        have hownd : OwnK wd w1.heap.size 3 1 (l ++ [k]).length va (natO (l ++ [k])) := by
          rw [← hwd, natO, List.map_append, List.length_append]; exact h1.setCell hva _
        have hwasd := hwasc.agree hagd (by have := hS5.box.1; omega)
        have hod := hoc.agree hagd (by have := hSx.box.1; omega)
        clear hwd m2c m2s
        subst hQ2
        simp -dsimp only [VC.Now, VC.vc_skip, VC.vc_ret, VC.vc_exit, VC.vc_block, VC.vc_cond, VC.vc_region, VC.lib, VC.regQ, VC.loopK, VC.reg, VC.opP, VC.pv, VC.thenF, VC.blkF, VC.retF, VC.resV, VC.oneV, VC.evo, VC.bin, VC.binI, VC.cmpI, VC.arithI, VC.ldv, VC.slv, VC.pickP, VC.holds, VC.chainOf, VC.look, VC.junk, VC.put, VC.eff, VC.callee, VC.pureB, VC.rdK, VC.rdKs, VC.okKs, VC.eqKs, VC.fillL, VC.putL, VC.stW, VC.stOK, VC.mixF, VC.setAll, Nat.reduceAdd, Nat.reduceSub, Nat.reduceMul, if_true, if_false, ↓reduceIte, forall_const, implies_true, reduceCtorEq, ne_eq, Nat.reduceBNe, Nat.reduceBEq, IntKind.signed, Nat.reduceEqDiff, Nat.reduceLeDiff, Nat.reduceLT, eq_self, Int.reduceEq, Int.reduceLT, Int.reduceLE, Int.reduceAdd, Int.reduceSub, VC.regC_nil, VC.regC_cons, VC.regCK_eq, VC.callQ, VC.tailQ, VC.goCall, VC.chStep]
        rw [vc_seq]
        refine vc_plain _ fun Q2 hQ2 => ?_
        change vc _ _ _ _ _ ?F3 _
        obtain ⟨F3, hF3⟩ : ∃ F3, F3 = ?F3 := ⟨_, rfl⟩
        have cont : ∀ f' we, SAME F3 f' [] [45, 46, 47, 48, 49, 50, 51, 52, 53, 54] → Box we sb (stC (some ⟨b, o, none⟩) len c (l ++ [k]) va (rgs reg wr val (l ++ [k]))) → Agree (fun j => j = sb) wd we → Q2 .normal f' we := by
          intro f' we hSm bxe hage
          obtain ⟨u9, hu9⟩ := same_eq4 hSm
          subst hF3
          rw [show ([] : List Nat).map (fun t => f'.getD t undef) = [] from rfl] at hu9
          rw [hu9]
          have hwase := hwasd.agree hage (by have := hS5.box.1; omega)
          have hsbe := bxe.1
          have hszde := hage.size
          have hBe : Below w1.heap.size w1 we := by
            have h1 : Below w1.heap.size w1 wc := hagc.to_below hBb hw1b fun j hj => (hownb.lt hj).1
            have h2 : Below w1.heap.size w1 wd := hagd.to_below h1 (by have := hagc.size; omega) fun j hj => by omega
            exact hage.to_below h2 (by have := hagc.size; have := hagd.size; omega) fun j hj => by omega
          have hown : OwnK we w1.heap.size 3 1 (l ++ [k]).length va (natO (l ++ [k])) := hownd.keep fun j hj => hage.block j (hownd.lt hj).2 fun e => hva (by rw [hj, e])
          have hSe : StF w1.heap.size (some ⟨b, o, none⟩) len c sb reg wr val (l ++ [k]) va we := ⟨bxe, hown, hva⟩
          clear hS5 hSa hSx hSy bxb bxc bxd hownb hownd
          subst hQ2
          simp -dsimp only [VC.Now, VC.vc_skip, VC.vc_ret, VC.vc_exit, VC.vc_block, VC.vc_cond, VC.vc_region, VC.lib, VC.regQ, VC.loopK, VC.reg, VC.opP, VC.pv, VC.thenF, VC.blkF, VC.retF, VC.resV, VC.oneV, VC.evo, VC.bin, VC.binI, VC.cmpI, VC.arithI, VC.ldv, VC.slv, VC.pickP, VC.holds, VC.chainOf, VC.look, VC.junk, VC.put, VC.eff, VC.callee, VC.pureB, VC.rdK, VC.rdKs, VC.okKs, VC.eqKs, VC.fillL, VC.putL, VC.stW, VC.stOK, VC.mixF, VC.setAll, Nat.reduceAdd, Nat.reduceSub, Nat.reduceMul, if_true, if_false, ↓reduceIte, forall_const, implies_true, reduceCtorEq, ne_eq, Nat.reduceBNe, Nat.reduceBEq, IntKind.signed, Nat.reduceEqDiff, Nat.reduceLeDiff, Nat.reduceLT, eq_self, Int.reduceEq, Int.reduceLT, Int.reduceLE, Int.reduceAdd, Int.reduceSub, VC.regC_nil, VC.regC_cons, VC.regCK_eq, VC.callQ, VC.tailQ, VC.goCall, VC.chStep]
          (repeat rw [vc_seq]); refine vc_plain _ fun Q2 hQ2 => ?_; simp -dsimp only [Fa.F81, VC.Now, VC.vc_skip, VC.vc_ret, VC.vc_exit, VC.vc_block, VC.vc_cond, VC.vc_region, VC.lib, VC.regQ, VC.loopK, VC.reg, VC.opP, VC.pv, VC.thenF, VC.blkF, VC.retF, VC.resV, VC.oneV, VC.evo, VC.bin, VC.binI, VC.cmpI, VC.arithI, VC.ldv, VC.slv, VC.pickP, VC.holds, VC.chainOf, VC.look, VC.junk, VC.put, VC.eff, VC.callee, VC.pureB, VC.rdK, VC.rdKs, VC.okKs, VC.eqKs, VC.fillL, VC.putL, VC.stW, VC.stOK, VC.mixF, VC.setAll, Nat.reduceAdd, Nat.reduceSub, Nat.reduceMul, if_true, if_false, ↓reduceIte, forall_const, implies_true, reduceCtorEq, ne_eq, Nat.reduceBNe, Nat.reduceBEq, IntKind.signed, Nat.reduceEqDiff, Nat.reduceLeDiff, Nat.reduceLT, eq_self, Int.reduceEq, Int.reduceLT, Int.reduceLE, Int.reduceAdd, Int.reduceSub, VC.regC_nil, VC.regC_cons, VC.regCK_eq, VC.callQ, VC.tailQ, VC.goCall, VC.chStep]
          have hvaw5 : ¬ va.ownBlock = some w5.heap.size := fun e => by
            rcases h3 with e2 | ⟨j, e2, hj⟩
            · rw [e2] at e; exact hfw e
            · rw [e2] at e; have : j = w5.heap.size := Option.some.inj e; omega
          have hX' : ∀ j, j < w.heap.size → v'.ownBlock = some j → (j = sb ∨ v.ownBlock = some j) := fun j hj e => by
            rcases hst with e2 | ⟨i, e2, hi⟩
            · rw [e2] at e; exact Or.inr e
            · rw [e2] at e; have : i = j := Option.some.inj e; omega
          have hszx : w.heap.size ≤ wx.heap.size := hag.size
          have hXa : ∀ j, j < w.heap.size → va.ownBlock = some j → (j = sb ∨ v.ownBlock = some j) := fun j hj e => by
            rcases h3 with e2 | ⟨i, e2, hi⟩
            · rw [e2] at e; exact hX' j hj e
            · rw [e2] at e; have : i = j := Option.some.inj e; omega
          have hagE : Agree (fun j => j = sb ∨ v.ownBlock = some j) w we :=
            (((((hag.trans (Agree.of_below hBx5)).trans (Agree.of_below hBa)).trans' hagb fun j _ hj => Or.inl hj).trans' hagc fun j hj e => hX' j hj e).trans' hagd fun j _ hj => Or.inl hj).trans' hage fun j _ hj => Or.inl hj
          have hstE : Stays w v va := by
            rcases h3 with e2 | ⟨i, e2, hi⟩
            · rcases hst with e3 | ⟨j, e3, hj⟩
              · exact Or.inl (e2.trans e3)
              · exact Or.inr ⟨j, e2.trans e3, hj⟩
            · exact Or.inr ⟨i, e2, by omega⟩
          have hwse : w5.heap.size < we.heap.size := hwase.1
          have hsze : w.heap.size ≤ we.heap.size := hagE.size
          refine CALL_of (ih (l ++ [k]) va we (by rw [List.length_append, List.length_singleton]; omega) (nodup_app hnd hnin) (fun i hi => by
            rcases List.mem_append.1 hi with h | h
            · exact hll i h
            · rw [List.mem_singleton.1 h]; exact hk) hBe hSe) fun w7 ⟨v7, hS7, hst7, hag7⟩ => ?_
          have hag7' : Agree (fun j => j = sb ∨ v.ownBlock = some j) w w7 := hagE.trans' hag7 fun j hj e => e.elim Or.inl (hXa j hj)
          have hst7' : Stays w v v7 := by
            rcases hst7 with e2 | ⟨i, e2, hi⟩
            · rcases hstE with e3 | ⟨j, e3, hj⟩
              · exact Or.inl (e2.trans e3)
              · exact Or.inr ⟨j, e2.trans e3, hj⟩
            · exact Or.inr ⟨i, e2, by omega⟩
          cases hD : dfs len reg wr val fr to f (l ++ [k]) with
          | some r =>
            rw [hD] at hS7
            simp -dsimp only [Fa.F81, Option.isSome_some, VC.Now, VC.vc_skip, VC.vc_ret, VC.vc_exit, VC.vc_block, VC.vc_cond, VC.vc_region, VC.lib, VC.regQ, VC.loopK, VC.reg, VC.opP, VC.pv, VC.thenF, VC.blkF, VC.retF, VC.resV, VC.oneV, VC.evo, VC.bin, VC.binI, VC.cmpI, VC.arithI, VC.ldv, VC.slv, VC.pickP, VC.holds, VC.chainOf, VC.look, VC.junk, VC.put, VC.eff, VC.callee, VC.pureB, VC.rdK, VC.rdKs, VC.okKs, VC.eqKs, VC.fillL, VC.putL, VC.stW, VC.stOK, VC.mixF, VC.setAll, Nat.reduceAdd, Nat.reduceSub, Nat.reduceMul, if_true, if_false, ↓reduceIte, forall_const, implies_true, reduceCtorEq, ne_eq, Nat.reduceBNe, Nat.reduceBEq, IntKind.signed, Nat.reduceEqDiff, Nat.reduceLeDiff, Nat.reduceLT, eq_self, Int.reduceEq, Int.reduceLT, Int.reduceLE, Int.reduceAdd, Int.reduceSub, VC.regC_nil, VC.regC_cons, VC.regCK_eq, VC.callQ, VC.tailQ, VC.goCall, VC.chStep]
            subst hQ2; simp -dsimp only [VC.Now, VC.vc_skip, VC.vc_ret, VC.vc_exit, VC.vc_block, VC.vc_cond, VC.vc_region, VC.lib, VC.regQ, VC.loopK, VC.reg, VC.opP, VC.pv, VC.thenF, VC.blkF, VC.retF, VC.resV, VC.oneV, VC.evo, VC.bin, VC.binI, VC.cmpI, VC.arithI, VC.ldv, VC.slv, VC.pickP, VC.holds, VC.chainOf, VC.look, VC.junk, VC.put, VC.eff, VC.callee, VC.pureB, VC.rdK, VC.rdKs, VC.okKs, VC.eqKs, VC.fillL, VC.putL, VC.stW, VC.stOK, VC.mixF, VC.setAll, Nat.reduceAdd, Nat.reduceSub, Nat.reduceMul, if_true, if_false, ↓reduceIte, forall_const, implies_true, reduceCtorEq, ne_eq, Nat.reduceBNe, Nat.reduceBEq, IntKind.signed, Nat.reduceEqDiff, Nat.reduceLeDiff, Nat.reduceLT, eq_self, Int.reduceEq, Int.reduceLT, Int.reduceLE, Int.reduceAdd, Int.reduceSub, VC.regC_nil, VC.regC_cons, VC.regCK_eq, VC.callQ, VC.tailQ, VC.goCall, VC.chStep]; (repeat rw [vc_seq]); refine vc_plain _ fun Q2 hQ2 => ?_; simp -dsimp only [Fa.F81, VC.Now, VC.vc_skip, VC.vc_ret, VC.vc_exit, VC.vc_block, VC.vc_cond, VC.vc_region, VC.lib, VC.regQ, VC.loopK, VC.reg, VC.opP, VC.pv, VC.thenF, VC.blkF, VC.retF, VC.resV, VC.oneV, VC.evo, VC.bin, VC.binI, VC.cmpI, VC.arithI, VC.ldv, VC.slv, VC.pickP, VC.holds, VC.chainOf, VC.look, VC.junk, VC.put, VC.eff, VC.callee, VC.pureB, VC.rdK, VC.rdKs, VC.okKs, VC.eqKs, VC.fillL, VC.putL, VC.stW, VC.stOK, VC.mixF, VC.setAll, Nat.reduceAdd, Nat.reduceSub, Nat.reduceMul, if_true, if_false, ↓reduceIte, forall_const, implies_true, reduceCtorEq, ne_eq, Nat.reduceBNe, Nat.reduceBEq, IntKind.signed, Nat.reduceEqDiff, Nat.reduceLeDiff, Nat.reduceLT, eq_self, Int.reduceEq, Int.reduceLT, Int.reduceLE, Int.reduceAdd, Int.reduceSub, VC.regC_nil, VC.regC_cons, VC.regCK_eq, VC.callQ, VC.tailQ, VC.goCall, VC.chStep]
            subst hQ2
            simp -dsimp only [VC.Now, VC.vc_skip, VC.vc_ret, VC.vc_exit, VC.vc_block, VC.vc_cond, VC.vc_region, VC.lib, VC.regQ, VC.loopK, VC.reg, VC.opP, VC.pv, VC.thenF, VC.blkF, VC.retF, VC.resV, VC.oneV, VC.evo, VC.bin, VC.binI, VC.cmpI, VC.arithI, VC.ldv, VC.slv, VC.pickP, VC.holds, VC.chainOf, VC.look, VC.junk, VC.put, VC.eff, VC.callee, VC.pureB, VC.rdK, VC.rdKs, VC.okKs, VC.eqKs, VC.fillL, VC.putL, VC.stW, VC.stOK, VC.mixF, VC.setAll, Nat.reduceAdd, Nat.reduceSub, Nat.reduceMul, if_true, if_false, ↓reduceIte, forall_const, implies_true, reduceCtorEq, ne_eq, Nat.reduceBNe, Nat.reduceBEq, IntKind.signed, Nat.reduceEqDiff, Nat.reduceLeDiff, Nat.reduceLT, eq_self, Int.reduceEq, Int.reduceLT, Int.reduceLE, Int.reduceAdd, Int.reduceSub, VC.regC_nil, VC.regC_cons, VC.regCK_eq, VC.callQ, VC.tailQ, VC.goCall, VC.chStep]
            subst hQ
            simp -dsimp only [VC.Now, VC.vc_skip, VC.vc_ret, VC.vc_exit, VC.vc_block, VC.vc_cond, VC.vc_region, VC.lib, VC.regQ, VC.loopK, VC.reg, VC.opP, VC.pv, VC.thenF, VC.blkF, VC.retF, VC.resV, VC.oneV, VC.evo, VC.bin, VC.binI, VC.cmpI, VC.arithI, VC.ldv, VC.slv, VC.pickP, VC.holds, VC.chainOf, VC.look, VC.junk, VC.put, VC.eff, VC.callee, VC.pureB, VC.rdK, VC.rdKs, VC.okKs, VC.eqKs, VC.fillL, VC.putL, VC.stW, VC.stOK, VC.mixF, VC.setAll, Nat.reduceAdd, Nat.reduceSub, Nat.reduceMul, if_true, if_false, ↓reduceIte, forall_const, implies_true, reduceCtorEq, ne_eq, Nat.reduceBNe, Nat.reduceBEq, IntKind.signed, Nat.reduceEqDiff, Nat.reduceLeDiff, Nat.reduceLT, eq_self, Int.reduceEq, Int.reduceLT, Int.reduceLE, Int.reduceAdd, Int.reduceSub, VC.regC_nil, VC.regC_cons, VC.regCK_eq, VC.callQ, VC.tailQ, VC.goCall, VC.chStep]
            rw [findRange_hit h0 (hgk.trans hD) len hk]
            exact ⟨rfl, v7, hS7, hst7', hag7'⟩
          | none =>
            rw [hD] at hS7
            have hwas7 := hwase.agree hag7 (fun e => e.elim (fun e => by have := hBx5.size; omega) hvaw5)
            have hsb7 := hS7.box.1
            obtain ⟨g7, c7, hv7e, _, _⟩ := hS7.own.form (by rw [Option.getD_none, List.length_append]; simp)
            subst hv7e
            rw [Option.getD_none] at hS7
            have hown7 : OwnK w7 w1.heap.size 3 1 (l.length + 1) (.slice (some ⟨g7, 0, none⟩) (l.length + 1) c7) (natO l ++ [.int .i64 (k : Int)]) := by
              have h := hS7.own
              rw [natO, List.map_append, List.length_append] at h
              exact h
            have hlen7 : (l ++ [k]).length = l.length + 1 := by simp
            have far7 := hS7.far
            have bx7 : Box w7 sb (stD (some ⟨b, o, none⟩) len c (msk (l ++ [k])) (.slice (some ⟨g7, 0, none⟩) (l.length + 1) c7) (rgs reg wr val (l ++ [k]))) := by
              have h := hS7.box
              rw [hlen7] at h
              exact h
            simp only [Option.getD_none, hlen7] at far7 hst7'
            have m1 := bx7.at (i := 1) rfl
            have m1s := bx7.soft (i := 1) (by show 1 < 7; decide)
            have hoff := andNot_off (l := l) (i := k) h32 (by omega) hnin
            clear hS7
            simp -dsimp only [Fa.F81, Option.isSome_none, VC.Now, VC.vc_skip, VC.vc_ret, VC.vc_exit, VC.vc_block, VC.vc_cond, VC.vc_region, VC.lib, VC.regQ, VC.loopK, VC.reg, VC.opP, VC.pv, VC.thenF, VC.blkF, VC.retF, VC.resV, VC.oneV, VC.evo, VC.bin, VC.binI, VC.cmpI, VC.arithI, VC.ldv, VC.slv, VC.pickP, VC.holds, VC.chainOf, VC.look, VC.junk, VC.put, VC.eff, VC.callee, VC.pureB, VC.rdK, VC.rdKs, VC.okKs, VC.eqKs, VC.fillL, VC.putL, VC.stW, VC.stOK, VC.mixF, VC.setAll, Nat.reduceAdd, Nat.reduceSub, Nat.reduceMul, if_true, if_false, ↓reduceIte, forall_const, implies_true, reduceCtorEq, ne_eq, Nat.reduceBNe, Nat.reduceBEq, IntKind.signed, Nat.reduceEqDiff, Nat.reduceLeDiff, Nat.reduceLT, eq_self, Int.reduceEq, Int.reduceLT, Int.reduceLE, Int.reduceAdd, Int.reduceSub, VC.regC_nil, VC.regC_cons, VC.regCK_eq, VC.callQ, VC.tailQ, VC.goCall, VC.chStep]
            subst hQ2
            simp -dsimp only [VC.Now, VC.vc_skip, VC.vc_ret, VC.vc_exit, VC.vc_block, VC.vc_cond, VC.vc_region, VC.lib, VC.regQ, VC.loopK, VC.reg, VC.opP, VC.pv, VC.thenF, VC.blkF, VC.retF, VC.resV, VC.oneV, VC.evo, VC.bin, VC.binI, VC.cmpI, VC.arithI, VC.ldv, VC.slv, VC.pickP, VC.holds, VC.chainOf, VC.look, VC.junk, VC.put, VC.eff, VC.callee, VC.pureB, VC.rdK, VC.rdKs, VC.okKs, VC.eqKs, VC.fillL, VC.putL, VC.stW, VC.stOK, VC.mixF, VC.setAll, Nat.reduceAdd, Nat.reduceSub, Nat.reduceMul, if_true, if_false, ↓reduceIte, forall_const, implies_true, reduceCtorEq, ne_eq, Nat.reduceBNe, Nat.reduceBEq, IntKind.signed, Nat.reduceEqDiff, Nat.reduceLeDiff, Nat.reduceLT, eq_self, Int.reduceEq, Int.reduceLT, Int.reduceLE, Int.reduceAdd, Int.reduceSub, VC.regC_nil, VC.regC_cons, VC.regCK_eq, VC.callQ, VC.tailQ, VC.goCall, VC.chStep]
            (repeat rw [vc_seq]); refine vc_plain _ fun Q2 hQ2 => ?_; simp -dsimp only [Fa.F81, VC.Now, VC.vc_skip, VC.vc_ret, VC.vc_exit, VC.vc_block, VC.vc_cond, VC.vc_region, VC.lib, VC.regQ, VC.loopK, VC.reg, VC.opP, VC.pv, VC.thenF, VC.blkF, VC.retF, VC.resV, VC.oneV, VC.evo, VC.bin, VC.binI, VC.cmpI, VC.arithI, VC.ldv, VC.slv, VC.pickP, VC.holds, VC.chainOf, VC.look, VC.junk, VC.put, VC.eff, VC.callee, VC.pureB, VC.rdK, VC.rdKs, VC.okKs, VC.eqKs, VC.fillL, VC.putL, VC.stW, VC.stOK, VC.mixF, VC.setAll, Nat.reduceAdd, Nat.reduceSub, Nat.reduceMul, if_true, if_false, ↓reduceIte, forall_const, implies_true, reduceCtorEq, ne_eq, Nat.reduceBNe, Nat.reduceBEq, IntKind.signed, Nat.reduceEqDiff, Nat.reduceLeDiff, Nat.reduceLT, eq_self, Int.reduceEq, Int.reduceLT, Int.reduceLE, Int.reduceAdd, Int.reduceSub, VC.regC_nil, VC.regC_cons, VC.regCK_eq, VC.callQ, VC.tailQ, VC.goCall, VC.chStep]
            refine WP_held 9 (fun _ => False) (.take 0 (.take 1 (.take 2 (.take 3 (.take 4 (.take 5 (.take 6 (.one 7 (.take 8 (.one 9 .done)))))))))) Fa.mix (by kernel_rfl) rfl ?_
            simp -dsimp only [VC.heldF_done, VC.heldF_take, VC.heldF_one, VC.heldK_eq, VC.okRd, Fa.F81, rdI_of m1, m1, m1s, hoff, VC.Now, VC.vc, VC.lib, VC.regQ, VC.loopK, VC.reg, VC.opP, VC.pv, VC.thenF, VC.blkF, VC.retF, VC.resV, VC.oneV, VC.evo, VC.bin, VC.binI, VC.cmpI, VC.arithI, VC.ldv, VC.slv, VC.pickP, VC.holds, VC.chainOf, VC.look, VC.junk, VC.put, VC.eff, VC.callee, VC.pureB, VC.rdK, VC.rdKs, VC.okKs, VC.eqKs, VC.fillL, VC.putL, VC.stW, VC.stOK, VC.mixF, VC.setAll, Nat.reduceAdd, Nat.reduceSub, Nat.reduceMul, if_true, if_false, ↓reduceIte, forall_const, implies_true, reduceCtorEq, ne_eq, Nat.reduceBNe, Nat.reduceBEq, IntKind.signed, Nat.reduceEqDiff, Nat.reduceLeDiff, Nat.reduceLT, eq_self, Int.reduceEq, Int.reduceLT, Int.reduceLE, Int.reduceAdd, Int.reduceSub, VC.regC_nil, VC.regC_cons, VC.regCK_eq, VC.callQ, VC.tailQ, VC.goCall, VC.chStep]
            refine ⟨hsb7, by omega, Agree.of_below (below_drewN (Below.refl _ w7) 1), ?_⟩
            generalize hwg : (w7.drewN 1).setCell ⟨sb, 1, none⟩ (.int .u32 (msk l : Nat)) = wg
            have hBdg : Below w7.heap.size w7 (w7.drewN 1) := below_drewN (Below.refl _ w7) 1
            have hszg : wg.heap.size = w7.heap.size := by rw [← hwg]; simp
            have hagg : Agree (fun j => j = sb) w7 wg := by rw [← hwg]; exact (Agree.of_below hBdg).trans (Agree.setCell _ _ rfl)
            have bxg : Box wg sb (stD (some ⟨b, o, none⟩) len c (msk l) (.slice (some ⟨g7, 0, none⟩) (l.length + 1) c7) (rgs reg wr val (l ++ [k]))) := by rw [← hwg]; exact (bx7.below hBdg).set 1 _
            have hwasg := hwas7.agree hagg (by omega)
            have hown7g : OwnK wg w1.heap.size 3 1 (l.length + 1) (.slice (some ⟨g7, 0, none⟩) (l.length + 1) c7) (natO l ++ [.int .i64 (k : Int)]) := by rw [← hwg]; exact (hown7.below hBdg).setCell far7 _
            clear hwg m1 m1s
            have hcap7 : l.length + 1 ≤ c7 := by
              obtain ⟨A', c', hv9, ho9⟩ := id hown7g
              rcases ho9.2 with ⟨e, _⟩ | ⟨g', cap, cur, e, _, _, hle, _⟩
              · cases e
              · cases e; exact hle
            have hl1 : (((l.length + 1 : Nat) : Int) - 1) = ((l.length : Nat) : Int) := by omega
            have m2 := bxg.at (i := 2) rfl
            have m2s := bxg.soft (i := 2) (by show 2 < 7; decide)
            have hsbg := bxg.1
            subst hQ2
            simp -dsimp only [VC.Now, VC.vc_skip, VC.vc_ret, VC.vc_exit, VC.vc_block, VC.vc_cond, VC.vc_region, VC.lib, VC.regQ, VC.loopK, VC.reg, VC.opP, VC.pv, VC.thenF, VC.blkF, VC.retF, VC.resV, VC.oneV, VC.evo, VC.bin, VC.binI, VC.cmpI, VC.arithI, VC.ldv, VC.slv, VC.pickP, VC.holds, VC.chainOf, VC.look, VC.junk, VC.put, VC.eff, VC.callee, VC.pureB, VC.rdK, VC.rdKs, VC.okKs, VC.eqKs, VC.fillL, VC.putL, VC.stW, VC.stOK, VC.mixF, VC.setAll, Nat.reduceAdd, Nat.reduceSub, Nat.reduceMul, if_true, if_false, ↓reduceIte, forall_const, implies_true, reduceCtorEq, ne_eq, Nat.reduceBNe, Nat.reduceBEq, IntKind.signed, Nat.reduceEqDiff, Nat.reduceLeDiff, Nat.reduceLT, eq_self, Int.reduceEq, Int.reduceLT, Int.reduceLE, Int.reduceAdd, Int.reduceSub, VC.regC_nil, VC.regC_cons, VC.regCK_eq, VC.callQ, VC.tailQ, VC.goCall, VC.chStep]
            (repeat rw [vc_seq]); refine vc_plain _ fun Q2 hQ2 => ?_; simp -dsimp only [Fa.F81, VC.Now, VC.vc_skip, VC.vc_ret, VC.vc_exit, VC.vc_block, VC.vc_cond, VC.vc_region, VC.lib, VC.regQ, VC.loopK, VC.reg, VC.opP, VC.pv, VC.thenF, VC.blkF, VC.retF, VC.resV, VC.oneV, VC.evo, VC.bin, VC.binI, VC.cmpI, VC.arithI, VC.ldv, VC.slv, VC.pickP, VC.holds, VC.chainOf, VC.look, VC.junk, VC.put, VC.eff, VC.callee, VC.pureB, VC.rdK, VC.rdKs, VC.okKs, VC.eqKs, VC.fillL, VC.putL, VC.stW, VC.stOK, VC.mixF, VC.setAll, Nat.reduceAdd, Nat.reduceSub, Nat.reduceMul, if_true, if_false, ↓reduceIte, forall_const, implies_true, reduceCtorEq, ne_eq, Nat.reduceBNe, Nat.reduceBEq, IntKind.signed, Nat.reduceEqDiff, Nat.reduceLeDiff, Nat.reduceLT, eq_self, Int.reduceEq, Int.reduceLT, Int.reduceLE, Int.reduceAdd, Int.reduceSub, VC.regC_nil, VC.regC_cons, VC.regCK_eq, VC.callQ, VC.tailQ, VC.goCall, VC.chStep]
            refine WP_held 14 (fun _ => False) (.take 0 (.take 1 (.take 2 (.take 3 (.take 4 (.take 5 (.take 6 (.take 7 (.take 8 (.one 9 (.take 10 (.take 11 (.one 12 (.take 13 (.one 14 .done))))))))))))))) Fa.mix (by kernel_rfl) rfl ?_
            simp -dsimp only [VC.heldF_done, VC.heldF_take, VC.heldF_one, VC.heldK_eq, VC.okRd, Fa.F81, rdSA_of m2, rdSN_of m2, rdSC_of m2, m2, m2s, hl1, Int.toNat_natCast, VC.Now, VC.vc, VC.lib, VC.regQ, VC.loopK, VC.reg, VC.opP, VC.pv, VC.thenF, VC.blkF, VC.retF, VC.resV, VC.oneV, VC.evo, VC.bin, VC.binI, VC.cmpI, VC.arithI, VC.ldv, VC.slv, VC.pickP, VC.holds, VC.chainOf, VC.look, VC.junk, VC.put, VC.eff, VC.callee, VC.pureB, VC.rdK, VC.rdKs, VC.okKs, VC.eqKs, VC.fillL, VC.putL, VC.stW, VC.stOK, VC.mixF, VC.setAll, Nat.reduceAdd, Nat.reduceSub, Nat.reduceMul, if_true, if_false, ↓reduceIte, forall_const, implies_true, reduceCtorEq, ne_eq, Nat.reduceBNe, Nat.reduceBEq, IntKind.signed, Nat.reduceEqDiff, Nat.reduceLeDiff, Nat.reduceLT, eq_self, Int.reduceEq, Int.reduceLT, Int.reduceLE, Int.reduceAdd, Int.reduceSub, VC.regC_nil, VC.regC_cons, VC.regCK_eq, VC.callQ, VC.tailQ, VC.goCall, VC.chStep]
            refine ⟨hsbg, hsbg, Agree.of_below (below_drewN (Below.refl _ wg) 1), fits_i64 (by omega) (by omega), ⟨by omega, by omega⟩, Agree.of_below (below_drewN (Below.refl _ wg) 1), ?_⟩
            generalize hwh : (wg.drewN 1).setCell ⟨sb, 2, none⟩ (.slice (some ⟨g7, 0, none⟩) l.length c7) = wh
            have hBdh : Below wg.heap.size wg (wg.drewN 1) := below_drewN (Below.refl _ wg) 1
            have hszh : wh.heap.size = wg.heap.size := by rw [← hwh]; simp
            have hagh : Agree (fun j => j = sb) wg wh := by rw [← hwh]; exact (Agree.of_below hBdh).trans (Agree.setCell _ _ rfl)
            have bxh : Box wh sb (stD (some ⟨b, o, none⟩) len c (msk l) (.slice (some ⟨g7, 0, none⟩) l.length c7) (rgs reg wr val (l ++ [k]))) := by rw [← hwh]; exact (bxg.below hBdh).set 2 _
            have hwash := hwasg.agree hagh (by omega)
            have hownh : OwnK wh w1.heap.size 3 1 l.length (.slice (some ⟨g7, 0, none⟩) l.length c7) (natO l) := by rw [← hwh]; exact ((hown7g.below hBdh).setCell far7 _).pop
            clear hwh m2 m2s
            have s0 := hwash.at (i := 0) rfl
            have s1 := hwash.at (i := 1) rfl
            have s2 := hwash.at (i := 2) rfl
            have s3 := hwash.at (i := 3) rfl
            have t0 := bxh.soft (i := 3) (by show 3 < 7; decide)
            have t1 := bxh.soft (i := 4) (by show 4 < 7; decide)
            have t2 := bxh.soft (i := 5) (by show 5 < 7; decide)
            have t3 := bxh.soft (i := 6) (by show 6 < 7; decide)
            have y0 := bxh.at (i := 3) rfl
            have y1 := bxh.at (i := 4) rfl
            have y2 := bxh.at (i := 5) rfl
            have y3 := bxh.at (i := 6) rfl
            have hsbh := bxh.1
            subst hQ2
            simp -dsimp only [Fa.F81, rdI_of s0, s0, rdI_of s1, s1, rdI_of s2, s2, rdI_of s3, s3, t0, t1, t2, t3, y0, y1, y2, y3, VC.Now, VC.vc_skip, VC.vc_ret, VC.vc_exit, VC.vc_block, VC.vc_cond, VC.vc_region, VC.lib, VC.regQ, VC.loopK, VC.reg, VC.opP, VC.pv, VC.thenF, VC.blkF, VC.retF, VC.resV, VC.oneV, VC.evo, VC.bin, VC.binI, VC.cmpI, VC.arithI, VC.ldv, VC.slv, VC.pickP, VC.holds, VC.chainOf, VC.look, VC.junk, VC.put, VC.eff, VC.callee, VC.pureB, VC.rdK, VC.rdKs, VC.okKs, VC.eqKs, VC.fillL, VC.putL, VC.stW, VC.stOK, VC.mixF, VC.setAll, Nat.reduceAdd, Nat.reduceSub, Nat.reduceMul, if_true, if_false, ↓reduceIte, forall_const, implies_true, reduceCtorEq, ne_eq, Nat.reduceBNe, Nat.reduceBEq, IntKind.signed, Nat.reduceEqDiff, Nat.reduceLeDiff, Nat.reduceLT, eq_self, Int.reduceEq, Int.reduceLT, Int.reduceLE, Int.reduceAdd, Int.reduceSub, VC.regC_nil, VC.regC_cons, VC.regCK_eq, VC.callQ, VC.tailQ, VC.goCall, VC.chStep]
            generalize hwf : (((wh.setCell ⟨sb, 3, none⟩ (.int .i64 (rgs reg wr val l 0))).setCell ⟨sb, 4, none⟩ (.int .i64 (rgs reg wr val l 1))).setCell ⟨sb, 5, none⟩ (.int .i64 (rgs reg wr val l 2))).setCell ⟨sb, 6, none⟩ (.int .i64 (rgs reg wr val l 3)) = wf
            have bxf : Box wf sb (stC (some ⟨b, o, none⟩) len c l (.slice (some ⟨g7, 0, none⟩) l.length c7) (rgs reg wr val l)) := by
              rw [← hwf]; exact (((bxh.set 3 _).set 4 _).set 5 _).set 6 _
            have far8 : (Value.slice (some ⟨g7, 0, none⟩) l.length c7).ownBlock ≠ some sb := far7
            have hownf : OwnK wf w1.heap.size 3 1 l.length (.slice (some ⟨g7, 0, none⟩) l.length c7) (natO l) := by
              rw [← hwf]; exact (((hownh.setCell far8 _).setCell far8 _).setCell far8 _).setCell far8 _
            have hagf : Agree (fun j => j = sb) wh wf := by
              rw [← hwf]
              exact agree_set4 wh sb 3 4 5 6 _ _ _ _
            have hst8 : Stays w v (.slice (some ⟨g7, 0, none⟩) l.length c7) := hst7'
            have hagF : Agree (fun j => j = sb ∨ v.ownBlock = some j) w wf :=
              ((hag7'.trans' hagg fun j _ hj => Or.inl hj).trans' hagh fun j _ hj => Or.inl hj).trans' hagf fun j _ hj => Or.inl hj
            clear hwf s0 s1 s2 s3 t0 t1 t2 t3 y0 y1 y2 y3
            subst hQ
            simp -dsimp only [Fa.F81, VC.Now, VC.vc_skip, VC.vc_ret, VC.vc_exit, VC.vc_block, VC.vc_cond, VC.vc_region, VC.lib, VC.regQ, VC.loopK, VC.reg, VC.opP, VC.pv, VC.thenF, VC.blkF, VC.retF, VC.resV, VC.oneV, VC.evo, VC.bin, VC.binI, VC.cmpI, VC.arithI, VC.ldv, VC.slv, VC.pickP, VC.holds, VC.chainOf, VC.look, VC.junk, VC.put, VC.eff, VC.callee, VC.pureB, VC.rdK, VC.rdKs, VC.okKs, VC.eqKs, VC.fillL, VC.putL, VC.stW, VC.stOK, VC.mixF, VC.setAll, Nat.reduceAdd, Nat.reduceSub, Nat.reduceMul, if_true, if_false, ↓reduceIte, forall_const, implies_true, reduceCtorEq, ne_eq, Nat.reduceBNe, Nat.reduceBEq, IntKind.signed, Nat.reduceEqDiff, Nat.reduceLeDiff, Nat.reduceLT, eq_self, Int.reduceEq, Int.reduceLT, Int.reduceLE, Int.reduceAdd, Int.reduceSub, VC.regC_nil, VC.regC_cons, VC.regCK_eq, VC.callQ, VC.tailQ, VC.goCall, VC.chStep]
            refine ⟨fits_i64_nat (by omega), SAME.intro (by kernel_rfl), m - 1, by omega, k + 1, by omega, rfl, fun i hi => ?_, _, ⟨bxf, hownf, far8⟩, hst8, hagF⟩
            rcases Nat.lt_or_ge i k with h | h
            · exact h0 i h
            · obtain rfl : i = k := by omega
              exact hgk.trans hD
        by_cases hw : wr k = true
        · have o1 := hod.at (i := 1) rfl
          have o2 := hod.at (i := 2) rfl
          have o3 := hod.at (i := 3) rfl
          rw [hρ] at o1
          have hsbd := bxd.1
          have hwxd := hod.1
          have ms := bxd.soft (i := 3 + ρ) (by show 3 + ρ < 7; omega)
          have hcel := bxd.at (stC_reg (A := some ⟨b, o, none⟩) (len := len) (c := c) (l := l ++ [k]) (v := va) (R := rgs reg wr val l) hρ4)
          clear hQ2
          have hwT : (wr k = true) = True := eq_true hw
          have hwF : (wr k = false) = False := eq_false (by rw [hw]; simp)
          (repeat rw [vc_seq]); refine vc_plain _ fun Q3 hQ3 => ?_; simp -dsimp only [Fa.F81, rdB_of o2, o2, hwT, hwF, VC.Now, VC.vc_skip, VC.vc_ret, VC.vc_exit, VC.vc_block, VC.vc_cond, VC.vc_region, VC.lib, VC.regQ, VC.loopK, VC.reg, VC.opP, VC.pv, VC.thenF, VC.blkF, VC.retF, VC.resV, VC.oneV, VC.evo, VC.bin, VC.binI, VC.cmpI, VC.arithI, VC.ldv, VC.slv, VC.pickP, VC.holds, VC.chainOf, VC.look, VC.junk, VC.put, VC.eff, VC.callee, VC.pureB, VC.rdK, VC.rdKs, VC.okKs, VC.eqKs, VC.fillL, VC.putL, VC.stW, VC.stOK, VC.mixF, VC.setAll, Nat.reduceAdd, Nat.reduceSub, Nat.reduceMul, if_true, if_false, ↓reduceIte, forall_const, implies_true, reduceCtorEq, ne_eq, Nat.reduceBNe, Nat.reduceBEq, IntKind.signed, Nat.reduceEqDiff, Nat.reduceLeDiff, Nat.reduceLT, eq_self, Int.reduceEq, Int.reduceLT, Int.reduceLE, Int.reduceAdd, Int.reduceSub, VC.regC_nil, VC.regC_cons, VC.regCK_eq, VC.callQ, VC.tailQ, VC.goCall, VC.chStep]
          subst hQ3
          simp -dsimp only [hwT, hwF, VC.Now, VC.vc_skip, VC.vc_ret, VC.vc_exit, VC.vc_block, VC.vc_cond, VC.vc_region, VC.lib, VC.regQ, VC.loopK, VC.reg, VC.opP, VC.pv, VC.thenF, VC.blkF, VC.retF, VC.resV, VC.oneV, VC.evo, VC.bin, VC.binI, VC.cmpI, VC.arithI, VC.ldv, VC.slv, VC.pickP, VC.holds, VC.chainOf, VC.look, VC.junk, VC.put, VC.eff, VC.callee, VC.pureB, VC.rdK, VC.rdKs, VC.okKs, VC.eqKs, VC.fillL, VC.putL, VC.stW, VC.stOK, VC.mixF, VC.setAll, Nat.reduceAdd, Nat.reduceSub, Nat.reduceMul, if_true, if_false, ↓reduceIte, forall_const, implies_true, reduceCtorEq, ne_eq, Nat.reduceBNe, Nat.reduceBEq, IntKind.signed, Nat.reduceEqDiff, Nat.reduceLeDiff, Nat.reduceLT, eq_self, Int.reduceEq, Int.reduceLT, Int.reduceLE, Int.reduceAdd, Int.reduceSub, VC.regC_nil, VC.regC_cons, VC.regCK_eq, VC.callQ, VC.tailQ, VC.goCall, VC.chStep]
          refine WP_held 8 (fun _ => False) (.take 0 (.take 1 (.take 2 (.take 3 (.take 4 (.one 5 (.one 6 (.take 7 (.one 8 .done))))))))) Fa.mix (by kernel_rfl) rfl ?_
          simp -dsimp only [VC.heldF_done, VC.heldF_take, VC.heldF_one, VC.heldK_eq, VC.okRd, Fa.F81, rdI_of o1, o1, rdI_of o3, o3, ms, VC.Now, VC.vc, VC.lib, VC.regQ, VC.loopK, VC.reg, VC.opP, VC.pv, VC.thenF, VC.blkF, VC.retF, VC.resV, VC.oneV, VC.evo, VC.bin, VC.binI, VC.cmpI, VC.arithI, VC.ldv, VC.slv, VC.pickP, VC.holds, VC.chainOf, VC.look, VC.junk, VC.put, VC.eff, VC.callee, VC.pureB, VC.rdK, VC.rdKs, VC.okKs, VC.eqKs, VC.fillL, VC.putL, VC.stW, VC.stOK, VC.mixF, VC.setAll, Nat.reduceAdd, Nat.reduceSub, Nat.reduceMul, if_true, if_false, ↓reduceIte, forall_const, implies_true, reduceCtorEq, ne_eq, Nat.reduceBNe, Nat.reduceBEq, IntKind.signed, Nat.reduceEqDiff, Nat.reduceLeDiff, Nat.reduceLT, eq_self, Int.reduceEq, Int.reduceLT, Int.reduceLE, Int.reduceAdd, Int.reduceSub, VC.regC_nil, VC.regC_cons, VC.regCK_eq, VC.callQ, VC.tailQ, VC.goCall, VC.chStep]
          refine ⟨hwxd, hwxd, Agree.of_below (below_drewN (Below.refl _ wd) 1), Agree.of_below (below_drewN (Below.refl _ wd) 1), ⟨by omega, by omega⟩, by rw [hcel]; rfl, ?_⟩
          have hBdd : Below wd.heap.size wd (wd.drewN 1) := below_drewN (Below.refl _ wd) 1
          have bxe : Box ((wd.drewN 1).setCell ⟨sb, 3 + ρ, none⟩ (.int .i64 (val k))) sb (stC (some ⟨b, o, none⟩) len c (l ++ [k]) va (rgs reg wr val (l ++ [k]))) := by
            have h := (bxd.below hBdd).set (3 + ρ) (.int .i64 (val k))
            have e : (stD (some ⟨b, o, none⟩) len c (msk (l ++ [k])) va (rgs reg wr val l)).set (3 + ρ) (.int .i64 (val k)) = stC (some ⟨b, o, none⟩) len c (l ++ [k]) va (rgs reg wr val (l ++ [k])) := by
              rw [rgs_app, if_pos hw, hρ]
              match ρ, hρ4 with
              | 0, _ => rfl
              | 1, _ => rfl
              | 2, _ => rfl
              | 3, _ => rfl
            rw [e] at h
            exact h
          exact cont _ _ (hF3 ▸ SAME.intro (by kernel_rfl)) bxe ((Agree.of_below hBdd).trans (Agree.setCell _ _ rfl))
        · have o2 := hod.at (i := 2) rfl
          have hwT : (wr k = true) = False := eq_false hw
          have hwF : (wr k = false) = True := eq_true (by simpa using hw)
          repeat rw [vc_seq]
          simp -dsimp only [Fa.F81, rdB_of o2, o2, hwT, hwF, VC.Now, VC.vc_skip, VC.vc_ret, VC.vc_exit, VC.vc_block, VC.vc_cond, VC.vc_region, VC.lib, VC.regQ, VC.loopK, VC.reg, VC.opP, VC.pv, VC.thenF, VC.blkF, VC.retF, VC.resV, VC.oneV, VC.evo, VC.bin, VC.binI, VC.cmpI, VC.arithI, VC.ldv, VC.slv, VC.pickP, VC.holds, VC.chainOf, VC.look, VC.junk, VC.put, VC.eff, VC.callee, VC.pureB, VC.rdK, VC.rdKs, VC.okKs, VC.eqKs, VC.fillL, VC.putL, VC.stW, VC.stOK, VC.mixF, VC.setAll, Nat.reduceAdd, Nat.reduceSub, Nat.reduceMul, if_true, if_false, ↓reduceIte, forall_const, implies_true, reduceCtorEq, ne_eq, Nat.reduceBNe, Nat.reduceBEq, IntKind.signed, Nat.reduceEqDiff, Nat.reduceLeDiff, Nat.reduceLT, eq_self, Int.reduceEq, Int.reduceLT, Int.reduceLE, Int.reduceAdd, Int.reduceSub, VC.regC_nil, VC.regC_cons, VC.regCK_eq, VC.callQ, VC.tailQ, VC.goCall, VC.chStep]
          have e : rgs reg wr val (l ++ [k]) = rgs reg wr val l := by rw [rgs_app, if_neg hw]
          have bxe : Box wd sb (stC (some ⟨b, o, none⟩) len c (l ++ [k]) va (rgs reg wr val (l ++ [k]))) := by
            rw [e]; exact bxd
          exact cont _ _ (hF3 ▸ SAME.intro (by kernel_rfl)) bxe (Agree.refl _ _)
    · obtain rfl : k = len := by omega
      have e1 : ((k : Int) < k) = False := eq_false (by omega)
      rw [findRange_none h0]
      simp -dsimp only [Fa.F81, e1, VC.Now, VC.vc, VC.lib, VC.regQ, VC.loopK, VC.reg, VC.opP, VC.pv, VC.thenF, VC.blkF, VC.retF, VC.resV, VC.oneV, VC.evo, VC.bin, VC.binI, VC.cmpI, VC.arithI, VC.ldv, VC.slv, VC.pickP, VC.holds, VC.chainOf, VC.look, VC.junk, VC.put, VC.eff, VC.callee, VC.pureB, VC.rdK, VC.rdKs, VC.okKs, VC.eqKs, VC.fillL, VC.putL, VC.stW, VC.stOK, VC.mixF, VC.setAll, Nat.reduceAdd, Nat.reduceSub, Nat.reduceMul, if_true, if_false, ↓reduceIte, forall_const, implies_true, reduceCtorEq, ne_eq, Nat.reduceBNe, Nat.reduceBEq, IntKind.signed, Nat.reduceEqDiff, Nat.reduceLeDiff, Nat.reduceLT, eq_self, Int.reduceEq, Int.reduceLT, Int.reduceLE, Int.reduceAdd, Int.reduceSub, VC.regC_nil, VC.regC_cons, VC.regCK_eq, VC.callQ, VC.tailQ, VC.goCall, VC.chStep]
      exact ⟨rfl, v', hSx, hst, hag⟩
end Go.Proofs.Ytdcjacloejhmlaa
