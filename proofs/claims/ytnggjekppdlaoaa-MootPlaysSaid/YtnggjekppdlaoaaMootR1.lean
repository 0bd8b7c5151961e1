/- An assembly as the document has it, in memory; what only reads it. -/
import Derived.Test.YtnggjekppdlaoaaMoot6
import Derived.Test.YtnggjekppdlaoaaRefHas
namespace Go.Proofs.Ytnggjekppdlaoaa
open Go Go.RowKit Go.VC
set_option linter.unusedSimpArgs false
set_option linter.unusedVariables false

theorem flat_len {α : Type} {en : α → List Value} {K : Nat} (hK : ∀ x, (en x).length = K) : ∀ (l : List α), (l.flatMap en).length = l.length * K
  | [] => by simp
  | x :: l => by rw [List.flatMap_cons, List.length_append, hK, flat_len hK l, List.length_cons, Nat.succ_mul]; omega
theorem flat_at {α : Type} {en : α → List Value} {K : Nat} (hK : ∀ x, (en x).length = K) : ∀ (l : List α) (a j : Nat) (x : α), j < K → l[a]? = some x → (l.flatMap en)[a * K + j]? = (en x)[j]?
  | x :: l, 0, j, y, hj, h => by
    cases h
    rw [List.flatMap_cons, Nat.zero_mul, Nat.zero_add, List.getElem?_append_left (by rw [hK]; exact hj)]
  | x :: l, a + 1, j, y, hj, h => by
    rw [List.flatMap_cons, List.getElem?_append_right (by rw [hK, Nat.succ_mul]; omega), hK]
    have := flat_at hK l a j y hj (by simpa using h)
    rw [show (a + 1) * K + j - K = a * K + j by rw [Nat.succ_mul]; omega]
    exact this
/-- A voice: who, what, high. -/
abbrev Vo := Int × Int × Int
abbrev voC (v : Vo) : List Value := [.int .i64 v.1, .int .i64 v.2.1, .int .i64 v.2.2]
/-- A slice of voices. -/
def RdVo (w : World) (A : Option Addr) (l : List Vo) : Prop :=
  0 < l.length → ∃ b, A = some ⟨b, 0, none⟩ ∧ b < w.heap.size ∧ ∀ (i : Nat) (x : Vo), l[i]? = some x → w.cell? ⟨b, i * 3, none⟩ = some (.int .i64 x.1) ∧ w.cell? ⟨b, i * 3 + 1, none⟩ = some (.int .i64 x.2.1) ∧ w.cell? ⟨b, i * 3 + 2, none⟩ = some (.int .i64 x.2.2)
theorem RdVo.of_own {w : World} {B : Nat} {e : TypeId} {A : Option Addr} {c : Nat} {l : List Vo} (h : OwnK w B e 3 l.length (.slice A l.length c) (l.flatMap voC)) : RdVo w A l := by
  intro h0
  obtain ⟨g, c', e', _, hg⟩ := h.form h0
  cases e'
  refine ⟨g, rfl, hg, fun i x hx => ?_⟩
  have hi : i < l.length := (List.getElem?_eq_some_iff.1 hx).1
  have hat : ∀ j, j < 3 → w.cell? ⟨g, i * 3 + j, none⟩ = (voC x)[j]? := fun j hj => by
    rw [(h.at (j := i * 3 + j) (by omega)).1, flat_at (K := 3) (fun _ => rfl) l i j x hj hx]
  exact ⟨hat 0 (by omega), hat 1 (by omega), hat 2 (by omega)⟩
theorem RdVo.below {w w' : World} {A : Option Addr} {l : List Vo} (h : RdVo w A l) (hb : Below w.heap.size w w') : RdVo w' A l := by
  intro h0
  obtain ⟨b, rfl, hlt, hc⟩ := h h0
  exact ⟨b, rfl, Nat.lt_of_lt_of_le hlt hb.size, fun i x hx => ⟨(hb.cell (p := ⟨b, _, none⟩) hlt).trans (hc i x hx).1, (hb.cell (p := ⟨b, _, none⟩) hlt).trans (hc i x hx).2.1, (hb.cell (p := ⟨b, _, none⟩) hlt).trans (hc i x hx).2.2⟩⟩

/-! how many different ones -/
def seenS (what high : Int) (seen : List Int) (v : Vo) : List Int := if v.2.1 = what ∧ v.2.2 ≤ high ∧ v.1 ∉ seen then seen ++ [v.1] else seen
def seenF (what high : Int) (l : List Vo) : List Int := l.foldl (seenS what high) []
theorem seenF_snoc (what high : Int) (l : List Vo) (v : Vo) : seenF what high (l ++ [v]) = seenS what high (seenF what high l) v := by simp [seenF]
theorem snoc_ind {α : Type} {P : List α → Prop} (h0 : P []) (h1 : ∀ l x, P l → P (l ++ [x])) (l : List α) : P l := by
  rw [← l.reverse_reverse]
  induction l.reverse with
  | nil => exact h0
  | cons x r ih => rw [List.reverse_cons]; exact h1 _ _ ih
theorem seenF_len (what high : Int) (l : List Vo) : (seenF what high l).length ≤ l.length := by
  refine snoc_ind (P := fun l => (seenF what high l).length ≤ l.length) (by simp [seenF]) (fun l v ih => ?_) l
  rw [seenF_snoc]; unfold seenS; split <;> simp <;> omega
theorem seenF_mem (what high : Int) (l : List Vo) (x : Int) : x ∈ seenF what high l ↔ ∃ h, h ≤ high ∧ (x, what, h) ∈ l := by
  refine snoc_ind (P := fun l => x ∈ seenF what high l ↔ ∃ h, h ≤ high ∧ (x, what, h) ∈ l) (by simp [seenF]) (fun l v ih => ?_) l
  · obtain ⟨a, b, c⟩ := v
    rw [seenF_snoc]; unfold seenS
    split
    · rename_i hc
      obtain ⟨h1, h2, _⟩ := hc
      simp only at h1 h2
      subst h1
      rw [List.mem_append, ih, List.mem_singleton]
      constructor
      · rintro (⟨h, h3, h4⟩ | rfl)
        · exact ⟨h, h3, by simp [h4]⟩
        · exact ⟨c, h2, by simp⟩
      · rintro ⟨h, h3, h4⟩
        rw [List.mem_append] at h4
        rcases h4 with h4 | h4
        · exact Or.inl ⟨h, h3, h4⟩
        · simp at h4; exact Or.inr h4.1
    · rename_i hc
      rw [ih]
      constructor
      · rintro ⟨h, h3, h4⟩; exact ⟨h, h3, by simp [h4]⟩
      · rintro ⟨h, h3, h4⟩
        rw [List.mem_append] at h4
        rcases h4 with h4 | h4
        · exact ⟨h, h3, h4⟩
        · simp at h4
          obtain ⟨rfl, rfl, rfl⟩ := h4
          have : x ∈ seenF what high l := Classical.byContradiction fun hn => hc ⟨rfl, h3, hn⟩
          exact ih.1 this
theorem seenF_nodup (what high : Int) (l : List Vo) : (seenF what high l).Nodup := by
  refine snoc_ind (P := fun l => (seenF what high l).Nodup) (by simp [seenF]) (fun l v ih => ?_) l
  · rw [seenF_snoc]; unfold seenS
    split
    · rename_i hc
      rw [List.nodup_append]
      exact ⟨ih, by simp, fun a ha b hb => by rw [List.mem_singleton] at hb; subst hb; rintro rfl; exact hc.2.2 ha⟩
    · exact ih
theorem nodup_count {n : Nat} {l : List Int} (hn : l.Nodup) (hr : ∀ x ∈ l, 0 ≤ x ∧ x < n) : l.length = (List.range n).countP fun (i : Nat) => decide (((i : Nat) : Int) ∈ l) := by
  rw [List.countP_eq_length_filter]
  have hp : ((List.range n).filter fun (i : Nat) => decide (((i : Nat) : Int) ∈ l)).Perm (l.map Int.toNat) := by
    rw [List.perm_ext_iff_of_nodup (List.nodup_range.filter _) ?_]
    · intro a
      simp only [List.mem_filter, List.mem_range, decide_eq_true_eq, List.mem_map]
      constructor
      · rintro ⟨h1, h2⟩; exact ⟨(a : Int), h2, by omega⟩
      · rintro ⟨x, h1, rfl⟩
        obtain ⟨h2, h3⟩ := hr x h1
        exact ⟨by omega, by rw [Int.toNat_of_nonneg h2]; exact h1⟩
    · rw [List.Nodup, List.pairwise_map]
      refine List.Pairwise.imp_of_mem ?_ hn
      intro a b ha hb hab he
      have := hr a ha
      have := hr b hb
      omega
  rw [hp.length_eq, List.length_map]
theorem seen_count {n : Nat} {l : List Vo} (what high : Int) (hr : ∀ v ∈ l, 0 ≤ v.1 ∧ v.1 < n) : (seenF what high l).length = (List.range n).countP fun (i : Nat) => decide (((i : Nat) : Int) ∈ seenF what high l) :=
  nodup_count (seenF_nodup _ _ _) fun x hx => by
    obtain ⟨h, _, h2⟩ := (seenF_mem what high l x).1 hx
    exact hr _ h2

set_option maxRecDepth 8000 in
set_option maxHeartbeats 4000000 in
theorem different_any (A : Option Addr) (c : Nat) (l : List Vo) (what high : Int) (w : World) (hr : RdVo w A l) (hl : l.length ≤ 1000) :
    Calls Try.prog 78 #[.slice A l.length c, .int .i64 what, .int .i64 high] w fun e w' => e = .returned (.int .i64 (seenF what high l).length) ∧ Below w.heap.size w w' := by
  refine calls_vc (rs := [.tmp 6]) Fa.mix Try.func78 rfl Try.ntmps78 rfl (by kernel_rfl) (Nat.le_of_ble_eq_true rfl) ?_
  simp -dsimp only [Fa.F78, VC.Now, VC.vc, VC.lib, VC.regQ, VC.loopK, VC.reg, VC.opP, VC.pv, VC.thenF, VC.blkF, VC.retF, VC.resV, VC.oneV, VC.evo, VC.bin, VC.binI, VC.cmpI, VC.arithI, VC.ldv, VC.slv, VC.pickP, VC.holds, VC.chainOf, VC.look, VC.junk, VC.put, VC.eff, VC.callee, VC.pureB, VC.rdK, VC.rdKs, VC.okKs, VC.eqKs, VC.fillL, VC.putL, VC.stW, VC.stOK, VC.mixF, VC.setAll, Nat.reduceAdd, Nat.reduceSub, Nat.reduceMul, if_true, if_false, ↓reduceIte, forall_const, implies_true, reduceCtorEq, ne_eq, Nat.reduceBNe, Nat.reduceBEq, IntKind.signed, Nat.reduceEqDiff, Nat.reduceLeDiff, Nat.reduceLT, eq_self, Int.reduceEq, Int.reduceLT, Int.reduceLE, Int.reduceAdd, Int.reduceSub, VC.regC_nil, VC.regC_cons, VC.regCK_eq, VC.callQ, VC.tailQ, VC.goCall, VC.chStep]
  refine loop_slots Fa.mix [7, 12] [9, 13, 14, 15, 16, 17, 18, 19, 20, 21, 22, 23, 24, 25, 26, 27, 28, 29, 30, 31, 32, 33, 34, 35, 36, 37, 38] (fun m vs wr => ∃ (k : Nat) (v : Value), k + m = l.length ∧ vs = [v, .int .i64 k] ∧ OwnK wr w.heap.size 3 1 (seenF what high (l.take k)).length v ((seenF what high (l.take k)).map (Value.int .i64)) ∧ Below w.heap.size w wr) l.length (by kernel_rfl) rfl
    ⟨0, nilS, by omega, rfl, OwnK.nil _ _ _ _, Below.refl _ _⟩ ?_
  rintro m vs u wr ⟨k, v, hkm, rfl, hown, hB⟩
  obtain ⟨Av, cv, rfl, _⟩ := id hown
  have hle := seenF_len what high (l.take k)
  rw [List.length_take] at hle
  by_cases hk : k < l.length
  · obtain ⟨b, rfl, hb, hc⟩ := (hr.below hB) (by omega)
    obtain ⟨x, hx⟩ : ∃ x, l[k]? = some x := ⟨_, List.getElem?_eq_getElem hk⟩
    obtain ⟨c0, c1, c2⟩ := hc k x hx
    have ht : l.take (k + 1) = l.take k ++ [x] := by rw [List.take_add_one, hx]; rfl
    have hst := seenF_snoc what high (l.take k) x
    rw [← ht] at hst
    generalize hS : seenF what high (l.take k) = S at *
    obtain ⟨xa, xb, xc⟩ := x
    have e5 : ((k : Int) < l.length) = True := eq_true (by omega)
    have hBa : Below w.heap.size w (wr.alloc (.cells #[.int .i64 xa, .int .i64 xb, .int .i64 xc] 218)) := below_box hB _
    have hownA := hown.alloc (.cells #[.int .i64 xa, .int .i64 xb, .int .i64 xc] 218)
    by_cases q1 : xb = what
    · have e1 := eq_true q1
      by_cases q2 : xc ≤ high
      · have e2 := eq_true q2
        simp -dsimp only [Fa.F78, e5, e1, e2, rdI_of c0, c0, rdI_of c1, c1, rdI_of c2, c2, undef, tu, uf, ul, ur, VC.Now, VC.vc, VC.lib, VC.regQ, VC.loopK, VC.reg, VC.opP, VC.pv, VC.thenF, VC.blkF, VC.retF, VC.resV, VC.oneV, VC.evo, VC.bin, VC.binI, VC.cmpI, VC.arithI, VC.ldv, VC.slv, VC.pickP, VC.holds, VC.chainOf, VC.look, VC.junk, VC.put, VC.eff, VC.callee, VC.pureB, VC.rdK, VC.rdKs, VC.okKs, VC.eqKs, VC.fillL, VC.putL, VC.stW, VC.stOK, VC.mixF, VC.setAll, Nat.reduceAdd, Nat.reduceSub, Nat.reduceMul, if_true, if_false, ↓reduceIte, forall_const, implies_true, reduceCtorEq, ne_eq, Nat.reduceBNe, Nat.reduceBEq, IntKind.signed, Nat.reduceEqDiff, Nat.reduceLeDiff, Nat.reduceLT, eq_self, Int.reduceEq, Int.reduceLT, Int.reduceLE, Int.reduceAdd, Int.reduceSub, VC.regC_nil, VC.regC_cons, VC.regCK_eq, VC.callQ, VC.tailQ, VC.goCall, VC.chStep]
        refine ⟨by omega, CALL_of (has_any Av cv S xa _ (hownA.rd.2) (by omega)) fun w2 hw2 => ?_⟩
        subst hw2
        by_cases q3 : xa ∈ S
        · have e3 := decide_eq_true q3
          simp -dsimp only [Fa.F78, e5, e3, undef, tu, uf, ul, ur, VC.Now, VC.vc, VC.lib, VC.regQ, VC.loopK, VC.reg, VC.opP, VC.pv, VC.thenF, VC.blkF, VC.retF, VC.resV, VC.oneV, VC.evo, VC.bin, VC.binI, VC.cmpI, VC.arithI, VC.ldv, VC.slv, VC.pickP, VC.holds, VC.chainOf, VC.look, VC.junk, VC.put, VC.eff, VC.callee, VC.pureB, VC.rdK, VC.rdKs, VC.okKs, VC.eqKs, VC.fillL, VC.putL, VC.stW, VC.stOK, VC.mixF, VC.setAll, Nat.reduceAdd, Nat.reduceSub, Nat.reduceMul, if_true, if_false, ↓reduceIte, forall_const, implies_true, reduceCtorEq, ne_eq, Nat.reduceBNe, Nat.reduceBEq, IntKind.signed, Nat.reduceEqDiff, Nat.reduceLeDiff, Nat.reduceLT, eq_self, Int.reduceEq, Int.reduceLT, Int.reduceLE, Int.reduceAdd, Int.reduceSub, VC.regC_nil, VC.regC_cons, VC.regCK_eq, VC.callQ, VC.tailQ, VC.goCall, VC.chStep]
          refine ⟨fits_i64_nat (by omega), SAME.intro (by kernel_rfl), m - 1, by omega, k + 1, _, by omega, rfl, ?_, hBa⟩
          rw [hst, show seenS what high S (xa, xb, xc) = S by unfold seenS; rw [if_neg (fun h => h.2.2 q3)]]
          exact hownA
        · have e3 := decide_eq_false q3
          have b0 : Box (wr.alloc (.cells #[.int .i64 xa, .int .i64 xb, .int .i64 xc] 218)) wr.heap.size [.int .i64 xa, .int .i64 xb, .int .i64 xc] := Box.new wr _ _
          simp -dsimp only [Fa.F78, e5, e3, undef, tu, uf, ul, ur, VC.Now, VC.vc, VC.lib, VC.regQ, VC.loopK, VC.reg, VC.opP, VC.pv, VC.thenF, VC.blkF, VC.retF, VC.resV, VC.oneV, VC.evo, VC.bin, VC.binI, VC.cmpI, VC.arithI, VC.ldv, VC.slv, VC.pickP, VC.holds, VC.chainOf, VC.look, VC.junk, VC.put, VC.eff, VC.callee, VC.pureB, VC.rdK, VC.rdKs, VC.okKs, VC.eqKs, VC.fillL, VC.putL, VC.stW, VC.stOK, VC.mixF, VC.setAll, Nat.reduceAdd, Nat.reduceSub, Nat.reduceMul, if_true, if_false, ↓reduceIte, forall_const, implies_true, reduceCtorEq, ne_eq, Nat.reduceBNe, Nat.reduceBEq, IntKind.signed, Nat.reduceEqDiff, Nat.reduceLeDiff, Nat.reduceLT, eq_self, Int.reduceEq, Int.reduceLT, Int.reduceLE, Int.reduceAdd, Int.reduceSub, VC.regC_nil, VC.regC_cons, VC.regCK_eq, VC.callQ, VC.tailQ, VC.goCall, VC.chStep]
          have hz3 : wr.heap.size + 1 = (wr.alloc (.cells #[.int .i64 xa, .int .i64 xb, .int .i64 xc] 218)).heap.size := by simp
          generalize wr.alloc (.cells #[.int .i64 xa, .int .i64 xb, .int .i64 xc] 218) = w3 at *
          refine OPW_appN hz3 rfl Fa.apI22 rfl rfl rfl (by simp [Value.oneCell']) hownA (by have := hBa.size; omega) (by omega) (by decide) fun v5 w5 ho5 hg5 hst5 => ?_
          simp -dsimp only [Fa.F78, e5, VC.Now, VC.vc, VC.lib, VC.regQ, VC.loopK, VC.reg, VC.opP, VC.pv, VC.thenF, VC.blkF, VC.retF, VC.resV, VC.oneV, VC.evo, VC.bin, VC.binI, VC.cmpI, VC.arithI, VC.ldv, VC.slv, VC.pickP, VC.holds, VC.chainOf, VC.look, VC.junk, VC.put, VC.eff, VC.callee, VC.pureB, VC.rdK, VC.rdKs, VC.okKs, VC.eqKs, VC.fillL, VC.putL, VC.stW, VC.stOK, VC.mixF, VC.setAll, Nat.reduceAdd, Nat.reduceSub, Nat.reduceMul, if_true, if_false, ↓reduceIte, forall_const, implies_true, reduceCtorEq, ne_eq, Nat.reduceBNe, Nat.reduceBEq, IntKind.signed, Nat.reduceEqDiff, Nat.reduceLeDiff, Nat.reduceLT, eq_self, Int.reduceEq, Int.reduceLT, Int.reduceLE, Int.reduceAdd, Int.reduceSub, VC.regC_nil, VC.regC_cons, VC.regCK_eq, VC.callQ, VC.tailQ, VC.goCall, VC.chStep]
          refine ⟨fits_i64_nat (by omega), SAME.intro (by kernel_rfl), m - 1, by omega, k + 1, v5, by omega, rfl, ?_, hBa.grown hg5 hBa.size fun j hj => (hownA.lt hj).1⟩
          rw [hst, show seenS what high S (xa, xb, xc) = S ++ [xa] by unfold seenS; rw [if_pos ⟨q1, q2, q3⟩]]
          rw [List.length_append, List.map_append]
          exact ho5
      · have e2 := eq_false q2
        simp -dsimp only [Fa.F78, e5, e1, e2, rdI_of c0, c0, rdI_of c1, c1, rdI_of c2, c2, undef, tu, uf, ul, ur, VC.Now, VC.vc, VC.lib, VC.regQ, VC.loopK, VC.reg, VC.opP, VC.pv, VC.thenF, VC.blkF, VC.retF, VC.resV, VC.oneV, VC.evo, VC.bin, VC.binI, VC.cmpI, VC.arithI, VC.ldv, VC.slv, VC.pickP, VC.holds, VC.chainOf, VC.look, VC.junk, VC.put, VC.eff, VC.callee, VC.pureB, VC.rdK, VC.rdKs, VC.okKs, VC.eqKs, VC.fillL, VC.putL, VC.stW, VC.stOK, VC.mixF, VC.setAll, Nat.reduceAdd, Nat.reduceSub, Nat.reduceMul, if_true, if_false, ↓reduceIte, forall_const, implies_true, reduceCtorEq, ne_eq, Nat.reduceBNe, Nat.reduceBEq, IntKind.signed, Nat.reduceEqDiff, Nat.reduceLeDiff, Nat.reduceLT, eq_self, Int.reduceEq, Int.reduceLT, Int.reduceLE, Int.reduceAdd, Int.reduceSub, VC.regC_nil, VC.regC_cons, VC.regCK_eq, VC.callQ, VC.tailQ, VC.goCall, VC.chStep]
        refine ⟨by omega, fits_i64_nat (by omega), SAME.intro (by kernel_rfl), m - 1, by omega, k + 1, _, by omega, rfl, ?_, hBa⟩
        rw [hst, show seenS what high S (xa, xb, xc) = S by unfold seenS; rw [if_neg (fun h => q2 h.2.1)]]
        exact hownA
    · have e1 := eq_false q1
      simp -dsimp only [Fa.F78, e5, e1, rdI_of c0, c0, rdI_of c1, c1, rdI_of c2, c2, undef, tu, uf, ul, ur, VC.Now, VC.vc, VC.lib, VC.regQ, VC.loopK, VC.reg, VC.opP, VC.pv, VC.thenF, VC.blkF, VC.retF, VC.resV, VC.oneV, VC.evo, VC.bin, VC.binI, VC.cmpI, VC.arithI, VC.ldv, VC.slv, VC.pickP, VC.holds, VC.chainOf, VC.look, VC.junk, VC.put, VC.eff, VC.callee, VC.pureB, VC.rdK, VC.rdKs, VC.okKs, VC.eqKs, VC.fillL, VC.putL, VC.stW, VC.stOK, VC.mixF, VC.setAll, Nat.reduceAdd, Nat.reduceSub, Nat.reduceMul, if_true, if_false, ↓reduceIte, forall_const, implies_true, reduceCtorEq, ne_eq, Nat.reduceBNe, Nat.reduceBEq, IntKind.signed, Nat.reduceEqDiff, Nat.reduceLeDiff, Nat.reduceLT, eq_self, Int.reduceEq, Int.reduceLT, Int.reduceLE, Int.reduceAdd, Int.reduceSub, VC.regC_nil, VC.regC_cons, VC.regCK_eq, VC.callQ, VC.tailQ, VC.goCall, VC.chStep]
      refine ⟨by omega, fits_i64_nat (by omega), SAME.intro (by kernel_rfl), m - 1, by omega, k + 1, _, by omega, rfl, ?_, hBa⟩
      rw [hst, show seenS what high S (xa, xb, xc) = S by unfold seenS; rw [if_neg (fun h => q1 h.1)]]
      exact hownA
  · obtain rfl : k = l.length := by omega
    have e5 : ((l.length : Int) < l.length) = False := eq_false (by omega)
    rw [List.take_length] at hown ⊢
    simp -dsimp only [Fa.F78, e5, VC.Now, VC.vc, VC.lib, VC.regQ, VC.loopK, VC.reg, VC.opP, VC.pv, VC.thenF, VC.blkF, VC.retF, VC.resV, VC.oneV, VC.evo, VC.bin, VC.binI, VC.cmpI, VC.arithI, VC.ldv, VC.slv, VC.pickP, VC.holds, VC.chainOf, VC.look, VC.junk, VC.put, VC.eff, VC.callee, VC.pureB, VC.rdK, VC.rdKs, VC.okKs, VC.eqKs, VC.fillL, VC.putL, VC.stW, VC.stOK, VC.mixF, VC.setAll, Nat.reduceAdd, Nat.reduceSub, Nat.reduceMul, if_true, if_false, ↓reduceIte, forall_const, implies_true, reduceCtorEq, ne_eq, Nat.reduceBNe, Nat.reduceBEq, IntKind.signed, Nat.reduceEqDiff, Nat.reduceLeDiff, Nat.reduceLT, eq_self, Int.reduceEq, Int.reduceLT, Int.reduceLE, Int.reduceAdd, Int.reduceSub, VC.regC_nil, VC.regC_cons, VC.regCK_eq, VC.callQ, VC.tailQ, VC.goCall, VC.chStep]
    exact hB
end Go.Proofs.Ytnggjekppdlaoaa
