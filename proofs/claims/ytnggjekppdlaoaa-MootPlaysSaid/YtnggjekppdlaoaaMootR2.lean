/- An assembly as the document has it: what its lists say; is a block certified; a new block. -/
import Derived.Test.YtnggjekppdlaoaaMootR1
namespace Go.Proofs.Ytnggjekppdlaoaa
open Go Go.RowKit Go.VC
set_option linter.unusedSimpArgs false
set_option linter.unusedVariables false

/-- The document's lists and the program's sets say one thing. -/
structure RRel (n liars : Nat) (s : MS) (V T : List Vo) : Prop where
  v1 : ∀ v ∈ V, (0 ≤ v.1 ∧ v.1 < n) ∧ (0 ≤ v.2.1 ∧ v.2.1 < s.nb) ∧ v.2.2 = 0
  v2 : ∀ i b : Nat, (s.vm b).testBit i = true ↔ (((i : Nat) : Int), ((b : Nat) : Int), (0 : Int)) ∈ V
  t1 : ∀ v ∈ T, 0 ≤ v.1 ∧ v.1 < n
  t2 : ∀ who round high : Int, s.lt (round, who, high) ↔ (who, round, high) ∈ T
  gc : ∀ i : Nat, liars.testBit i = false → ∀ round : Int, 0 < s.gc (((i : Nat) : Int), round) ↔ ∃ high, (((i : Nat) : Int), round, high) ∈ T
section
variable {n liars t : Nat} {s : MS} {V T : List Vo}
theorem RRel.cert (h : RRel n liars s V T) (hok : MOK n t s) (hn : n ≤ 32) (b : Nat) : (seenF b 0 V).length = ones (s.vm b) := by
  rw [seen_count _ _ fun v hv => (h.v1 v hv).1, ones_lt (hok.vm b) hn]
  refine List.countP_congr fun i _ => ?_
  rw [decide_eq_true_eq, seenF_mem, h.v2]
  constructor
  · rintro ⟨g, _, h2⟩
    have := (h.v1 _ h2).2.2
    simp only at this
    subst this; exact h2
  · intro h2; exact ⟨0, by omega, h2⟩
theorem RRel.pass (h : RRel n liars s V T) (round high : Int) : (seenF round high T).length = (List.range n).countP (gaveN s round high) := by
  rw [seen_count _ _ h.t1]
  refine List.countP_congr fun i _ => ?_
  rw [decide_eq_true_eq, seenF_mem, show gaveN s round high i = true ↔ ∃ h, h ≤ high ∧ s.lt (round, (i : Int), h) from by unfold gaveN; simp]
  exact ⟨fun ⟨g, h1, h2⟩ => ⟨g, h1, (h.t2 _ _ _).2 h2⟩, fun ⟨g, h1, h2⟩ => ⟨g, h1, (h.t2 _ _ _).1 h2⟩⟩
theorem RRel.zero (n liars : Nat) : RRel n liars ms0 [] [] where
  v1 := fun v hv => (by cases hv)
  v2 := fun i b => by
    show (0 : Nat).testBit i = true ↔ _
    simp
  t1 := fun v hv => (by cases hv)
  t2 := fun who r h => ⟨fun h => h.elim, fun h => (by cases h)⟩
  gc := fun i _ r => ⟨fun h => absurd h (by show ¬ 0 < 0; omega), fun ⟨g, hg⟩ => (by cases hg)⟩
theorem RRel.block (h : RRel n liars s V T) (x y : Int) : RRel n liars { s with nb := s.nb + 1, p := upd s.p s.nb x, r := upd s.r s.nb y, vm := upd s.vm s.nb 0 } V T := by
  refine ⟨fun v hv => ?_, fun i b => ?_, h.t1, h.t2, h.gc⟩
  · obtain ⟨h1, h2, h3⟩ := h.v1 v hv
    exact ⟨h1, ⟨h2.1, by show v.2.1 < ((s.nb + 1 : Nat) : Int); omega⟩, h3⟩
  · show (upd s.vm s.nb 0 b).testBit i = true ↔ _
    by_cases e : b = s.nb
    · subst e
      rw [upd_same]
      simp only [Nat.zero_testBit, Bool.false_eq_true, false_iff]
      intro hm
      have := (h.v1 _ hm).2.1.2
      simp only at this
      omega
    · rw [upd_other e]; exact h.v2 i b
theorem RRel.vote (h : RRel n liars s V T) {i b : Nat} (hi : i < n) (hb : b < s.nb) : RRel n liars { s with vm := upd s.vm b (s.vm b ||| 2 ^ i) } (V ++ [((i : Int), (b : Int), 0)]) T := by
  refine ⟨fun v hv => ?_, fun j c => ?_, h.t1, h.t2, h.gc⟩
  · rcases List.mem_append.1 hv with hv | hv
    · exact h.v1 v hv
    · rw [List.mem_singleton] at hv; subst hv
      exact ⟨⟨by show (0 : Int) ≤ (i : Int); omega, by show ((i : Nat) : Int) < n; omega⟩, ⟨by show (0 : Int) ≤ (b : Int); omega, by show ((b : Nat) : Int) < s.nb; omega⟩, rfl⟩
  · show (upd s.vm b (s.vm b ||| 2 ^ i) c).testBit j = true ↔ _
    rw [List.mem_append, List.mem_singleton, ← h.v2]
    by_cases e : c = b
    · subst e
      rw [upd_same, or_bit, Bool.or_eq_true, decide_eq_true_eq]
      refine or_congr Iff.rfl ⟨fun e => by rw [e], fun e => ?_⟩
      simp only [Prod.mk.injEq] at e; omega
    · rw [upd_other e]
      refine ⟨Or.inl, fun h => h.resolve_right fun e2 => e ?_⟩
      simp only [Prod.mk.injEq] at e2; omega
theorem RRel.mem (h : RRel n liars s V T) (vd kn : Nat → Int) : RRel n liars { s with vd := vd, kn := kn } V T := ⟨h.v1, h.v2, h.t1, h.t2, h.gc⟩
theorem RRel.lateL (h : RRel n liars s V T) {i : Nat} (hi : i < n) (hl : liars.testBit i = true) (round high : Int) : RRel n liars { s with lt := fun k => s.lt k ∨ k = (round, (i : Int), high) } V (T ++ [((i : Int), round, high)]) := by
  refine ⟨h.v1, h.v2, fun v hv => ?_, fun a b c => ?_, fun j hj r => ?_⟩
  · rcases List.mem_append.1 hv with hv | hv
    · exact h.t1 v hv
    · rw [List.mem_singleton] at hv; subst hv
      exact ⟨by show (0 : Int) ≤ (i : Int); omega, by show ((i : Nat) : Int) < n; omega⟩
  · show (s.lt (b, a, c) ∨ (b, a, c) = (round, (i : Int), high)) ↔ _
    rw [List.mem_append, List.mem_singleton, h.t2]
    refine or_congr Iff.rfl ?_
    simp only [Prod.mk.injEq]
    exact ⟨fun ⟨a, b, c⟩ => ⟨b, a, c⟩, fun ⟨a, b, c⟩ => ⟨b, a, c⟩⟩
  · rw [h.gc j hj]
    refine ⟨fun ⟨g, hg⟩ => ⟨g, List.mem_append_left _ hg⟩, fun ⟨g, hg⟩ => ?_⟩
    rcases List.mem_append.1 hg with hg | hg
    · exact ⟨g, hg⟩
    · rw [List.mem_singleton] at hg
      simp only [Prod.mk.injEq] at hg
      obtain rfl : j = i := by omega
      rw [hl] at hj; cases hj
theorem RRel.hold (h : RRel n liars s V T) {i : Nat} {round : Int} (hg : 0 < s.gc ((i : Int), round)) : RRel n liars { s with gc := fun k => if k = ((i : Int), round) then s.gc k + 1 else s.gc k } V T := by
  refine ⟨h.v1, h.v2, h.t1, h.t2, fun j hj r => ?_⟩
  show 0 < (if ((j : Int), r) = ((i : Int), round) then s.gc ((j : Int), r) + 1 else s.gc ((j : Int), r)) ↔ _
  split
  · rename_i e
    rw [← h.gc j hj, e]
    exact ⟨fun _ => hg, fun _ => by omega⟩
  · exact h.gc j hj r
theorem RRel.lateH (h : RRel n liars s V T) {i : Nat} (hi : i < n) (round high : Int) (vd : Nat → Int) : RRel n liars { s with gc := (fun k => if k = ((i : Int), round) then s.gc k + 1 else s.gc k), vd := vd, lt := fun k => s.lt k ∨ k = (round, (i : Int), high) } V (T ++ [((i : Int), round, high)]) := by
  refine ⟨h.v1, h.v2, fun v hv => ?_, fun a b c => ?_, fun j hj r => ?_⟩
  · rcases List.mem_append.1 hv with hv | hv
    · exact h.t1 v hv
    · rw [List.mem_singleton] at hv; subst hv
      exact ⟨by show (0 : Int) ≤ (i : Int); omega, by show ((i : Nat) : Int) < n; omega⟩
  · show (s.lt (b, a, c) ∨ (b, a, c) = (round, (i : Int), high)) ↔ _
    rw [List.mem_append, List.mem_singleton, h.t2]
    refine or_congr Iff.rfl ?_
    simp only [Prod.mk.injEq]
    exact ⟨fun ⟨a, b, c⟩ => ⟨b, a, c⟩, fun ⟨a, b, c⟩ => ⟨b, a, c⟩⟩
  · show 0 < (if ((j : Int), r) = ((i : Int), round) then s.gc ((j : Int), r) + 1 else s.gc ((j : Int), r)) ↔ _
    split
    · rename_i e
      simp only [Prod.mk.injEq] at e
      obtain ⟨e1, rfl⟩ := e
      exact ⟨fun _ => ⟨high, by rw [e1]; simp⟩, fun _ => by omega⟩
    · rename_i e
      rw [h.gc j hj]
      refine ⟨fun ⟨g, hg⟩ => ⟨g, List.mem_append_left _ hg⟩, fun ⟨g, hg⟩ => ?_⟩
      rcases List.mem_append.1 hg with hg | hg
      · exact ⟨g, hg⟩
      · rw [List.mem_singleton] at hg
        simp only [Prod.mk.injEq] at hg
        exact absurd (by rw [hg.1, hg.2.1]) e
end

/-- Where the document's assembly lies. -/
structure RA where
  mb : Nat
  gv : Nat
  gk : Nat
  vb : Value
  vo : Value
  vl : Value
abbrev refC (n f liars : Nat) (a : RA) : List Value := [.int .i64 n, .int .i64 f, .int .u32 liars, a.vb, a.vo, a.vl, .slice (some ⟨a.gv, 0, none⟩) n n, .slice (some ⟨a.gk, 0, none⟩) n n]
abbrev oneC (g : Nat → Int) (i : Nat) : List Value := [.int .i64 (g i)]
abbrev RObs (n f liars : Nat) (a : RA) (s : MS) (V T : List Vo) : List Ob :=
  [oBox a.mb (refC n f liars a), oOwn 116 2 s.nb a.vb (blkC s.p s.r s.nb), oOwn 218 3 V.length a.vo (V.flatMap voC), oOwn 218 3 T.length a.vl (T.flatMap voC),
   oRecs a.gv n 1 (oneC s.vd), oRecs a.gk n 1 (oneC s.kn)]
section
variable {B n f liars t : Nat} {a : RA} {s : MS} {V T : List Vo} {w : World}
theorem ro_box (h : Hp B (RObs n f liars a s V T) w) : Box w a.mb (refC n f liars a) := h.get 0 rfl
theorem ro_blk (h : Hp B (RObs n f liars a s V T) w) (h0 : 0 < s.nb) : ∃ g c, a.vb = .slice (some ⟨g, 0, none⟩) s.nb c ∧ g < w.heap.size ∧ ∀ b, b < s.nb → w.cell? ⟨g, b * 2, none⟩ = some (.int .i64 (s.p b)) ∧ w.cell? ⟨g, b * 2 + 1, none⟩ = some (.int .i64 (s.r b)) := by
  have ho : OwnK w 0 116 2 s.nb a.vb (blkC s.p s.r s.nb) := h.get 1 rfl
  obtain ⟨g, c, e, _, hg⟩ := ho.form h0
  rw [e] at ho
  refine ⟨g, c, e, hg, fun b hb => ?_⟩
  obtain ⟨h1, h2⟩ := blkC_at s.p s.r hb
  exact ⟨(ho.at (by omega)).1.trans h1, (ho.at (by omega)).1.trans h2⟩
theorem ro_vo (h : Hp B (RObs n f liars a s V T) w) : ∃ A c, a.vo = .slice A V.length c ∧ RdVo w A V := by
  have ho : OwnK w 0 218 3 V.length a.vo (V.flatMap voC) := h.get 2 rfl
  obtain ⟨A, c, e, _⟩ := id ho
  rw [e] at ho
  exact ⟨A, c, e, RdVo.of_own ho⟩
theorem ro_vl (h : Hp B (RObs n f liars a s V T) w) : ∃ A c, a.vl = .slice A T.length c ∧ RdVo w A T := by
  have ho : OwnK w 0 218 3 T.length a.vl (T.flatMap voC) := h.get 3 rfl
  obtain ⟨A, c, e, _⟩ := id ho
  rw [e] at ho
  exact ⟨A, c, e, RdVo.of_own ho⟩
theorem ro_mem (h : Hp B (RObs n f liars a s V T) w) {i : Nat} (hi : i < n) : w.cell? ⟨a.gv, i, none⟩ = some (.int .i64 (s.vd i)) ∧ w.cell? ⟨a.gk, i, none⟩ = some (.int .i64 (s.kn i)) ∧ w.frozen? ⟨a.gv, i, none⟩ = false ∧ w.frozen? ⟨a.gk, i, none⟩ = false := by
  have h1 : Recs w a.gv n 1 (oneC s.vd) := h.get 4 rfl
  have h2 : Recs w a.gk n 1 (oneC s.kn) := h.get 5 rfl
  have e1 := h1.at (j := 0) hi (by omega) rfl
  have e2 := h2.at (j := 0) hi (by omega) rfl
  have e3 := h1.soft (j := 0) hi (by omega)
  have e4 := h2.soft (j := 0) hi (by omega)
  rw [Nat.mul_one, Nat.add_zero] at e1 e2 e3 e4
  exact ⟨e1, e2, e3, e4⟩
theorem ro_setV (h : Hp B (RObs n f liars a s V T) w) {i : Nat} (hi : i < n) (x : Int) : St B (RObs n f liars a s V T) w (RObs n f liars a { s with vd := upd s.vd i x } V T) (w.setCell ⟨a.gv, i, none⟩ (.int .i64 x)) := by
  have hr : Recs w a.gv n 1 (oneC s.vd) := h.get 4 rfl
  have hs := hr.set (j := 0) hi (by omega) rfl (.int .i64 x)
  have e : upd (oneC s.vd) i ((oneC s.vd i).set 0 (.int .i64 x)) = oneC (upd s.vd i x) := by
    funext j
    by_cases hj : j = i
    · subst hj; rw [upd_same]; show _ = [Value.int .i64 (upd s.vd j x j)]; rw [upd_same]; rfl
    · rw [upd_other hj]; show _ = [Value.int .i64 (upd s.vd i x j)]; rw [upd_other hj]
  rw [e, Nat.mul_one, Nat.add_zero] at hs
  exact h.st 4 rfl (o' := oRecs a.gv n 1 (oneC (upd s.vd i x))) hs (Agree.setCell w _ rfl) (Or.inl rfl)
theorem ro_setK (h : Hp B (RObs n f liars a s V T) w) {i : Nat} (hi : i < n) (x : Int) : St B (RObs n f liars a s V T) w (RObs n f liars a { s with kn := upd s.kn i x } V T) (w.setCell ⟨a.gk, i, none⟩ (.int .i64 x)) := by
  have hr : Recs w a.gk n 1 (oneC s.kn) := h.get 5 rfl
  have hs := hr.set (j := 0) hi (by omega) rfl (.int .i64 x)
  have e : upd (oneC s.kn) i ((oneC s.kn i).set 0 (.int .i64 x)) = oneC (upd s.kn i x) := by
    funext j
    by_cases hj : j = i
    · subst hj; rw [upd_same]; show _ = [Value.int .i64 (upd s.kn j x j)]; rw [upd_same]; rfl
    · rw [upd_other hj]; show _ = [Value.int .i64 (upd s.kn i x j)]; rw [upd_other hj]
  rw [e, Nat.mul_one, Nat.add_zero] at hs
  exact h.st 5 rfl (o' := oRecs a.gk n 1 (oneC (upd s.kn i x))) hs (Agree.setCell w _ rfl) (Or.inl rfl)
def RPost (B n f liars : Nat) (a : RA) (s : MS) (V T : List Vo) (w : World) (r : Int × MS) (e : Ending) (w' : World) : Prop :=
  e = .returned (.int .i64 r.1) ∧ ∃ vb vo vl V' T', RRel n liars r.2 V' T' ∧ V'.length ≤ V.length + 1 ∧ T'.length ≤ T.length + 1 ∧ St B (RObs n f liars a s V T) w (RObs n f liars ⟨a.mb, a.gv, a.gk, vb, vo, vl⟩ r.2 V' T') w'
theorem RPost.same (h : Hp B (RObs n f liars a s V T) w) (hR : RRel n liars s V T) {w' : World} (hB : Below w.heap.size w w') {x : Int} {r : Int × MS} (hr : r = (x, s)) : RPost B n f liars a s V T w r (.returned (.int .i64 x)) w' := by
  subst hr
  exact ⟨rfl, a.vb, a.vo, a.vl, V, T, hR, by omega, by omega, h.below_st hB⟩
theorem RPost.lift {w2 w' : World} {r : Int × MS} {e : Ending} (h : Hp B (RObs n f liars a s V T) w) (hB : Below w.heap.size w w2) (k : RPost B n f liars a s V T w2 r e w') : RPost B n f liars a s V T w r e w' := by
  obtain ⟨h1, vb, vo, vl, V', T', h2, h3, h4, h5⟩ := k
  exact ⟨h1, vb, vo, vl, V', T', h2, h3, h4, (h.below_st hB).trans h5⟩

set_option maxRecDepth 8000 in
set_option maxHeartbeats 4000000 in
theorem certR_any (h : Hp B (RObs n f liars a s V T) w) (hR : RRel n liars s V T) (hok : MOK n t s) (hn : n ≤ 32) (hf : f ≤ n) (hV : V.length ≤ 1000) {b : Nat} (hb : b < s.nb) :
    Calls Try.prog 51 #[.pointer (some ⟨a.mb, 0, none⟩), .int .i64 b] w fun e w' => e = .returned (.bool (certB (n - f) s b)) ∧ Below w.heap.size w w' := by
  obtain ⟨A, c, e, hrd⟩ := ro_vo h
  have b0 := (ro_box h).at (i := 0) rfl
  have b1 := (ro_box h).at (i := 1) rfl
  have b4 := (ro_box h).at (i := 4) rfl
  rw [e] at b4
  refine calls_vc (rs := [.tmp 4]) Fa.mix Try.func51 rfl Try.ntmps51 rfl (by kernel_rfl) (Nat.le_of_ble_eq_true rfl) ?_
  simp -dsimp only [Fa.F51, VC.Now, VC.vc, VC.lib, VC.regQ, VC.loopK, VC.reg, VC.opP, VC.pv, VC.thenF, VC.blkF, VC.retF, VC.resV, VC.oneV, VC.evo, VC.bin, VC.binI, VC.cmpI, VC.arithI, VC.ldv, VC.slv, VC.pickP, VC.holds, VC.chainOf, VC.look, VC.junk, VC.put, VC.eff, VC.callee, VC.pureB, VC.rdK, VC.rdKs, VC.okKs, VC.eqKs, VC.fillL, VC.putL, VC.stW, VC.stOK, VC.mixF, VC.setAll, Nat.reduceAdd, Nat.reduceSub, Nat.reduceMul, if_true, if_false, ↓reduceIte, forall_const, implies_true, reduceCtorEq, ne_eq, Nat.reduceBNe, Nat.reduceBEq, IntKind.signed, Nat.reduceEqDiff, Nat.reduceLeDiff, Nat.reduceLT, eq_self, Int.reduceEq, Int.reduceLT, Int.reduceLE, Int.reduceAdd, Int.reduceSub, VC.regC_nil, VC.regC_cons, VC.regCK_eq, VC.callQ, VC.tailQ, VC.goCall, VC.chStep]
  refine WP_calls Fa.mix (by kernel_rfl) (by kernel_rfl) rfl ?_
  simp -dsimp only [Fa.F51, rdI_of b0, b0, rdI_of b1, b1, rdSA_of b4, rdSN_of b4, rdSC_of b4, b4, VC.Now, VC.vc, VC.lib, VC.regQ, VC.loopK, VC.reg, VC.opP, VC.pv, VC.thenF, VC.blkF, VC.retF, VC.resV, VC.oneV, VC.evo, VC.bin, VC.binI, VC.cmpI, VC.arithI, VC.ldv, VC.slv, VC.pickP, VC.holds, VC.chainOf, VC.look, VC.junk, VC.put, VC.eff, VC.callee, VC.pureB, VC.rdK, VC.rdKs, VC.okKs, VC.eqKs, VC.fillL, VC.putL, VC.stW, VC.stOK, VC.mixF, VC.setAll, Nat.reduceAdd, Nat.reduceSub, Nat.reduceMul, if_true, if_false, ↓reduceIte, forall_const, implies_true, reduceCtorEq, ne_eq, Nat.reduceBNe, Nat.reduceBEq, IntKind.signed, Nat.reduceEqDiff, Nat.reduceLeDiff, Nat.reduceLT, eq_self, Int.reduceEq, Int.reduceLT, Int.reduceLE, Int.reduceAdd, Int.reduceSub, VC.regC_nil, VC.regC_cons, VC.regCK_eq, VC.callQ, VC.tailQ, VC.goCall, VC.chStep]
  refine CALLQ_of (v := .int .i64 (seenF b 0 V).length) (fun _ wr hw => different_any A c V b 0 wr (hrd.below hw) hV) ?_
  simp -dsimp only [Fa.F51, rdI_of b0, b0, rdI_of b1, b1, rdSA_of b4, rdSN_of b4, rdSC_of b4, b4, VC.Now, VC.vc, VC.lib, VC.regQ, VC.loopK, VC.reg, VC.opP, VC.pv, VC.thenF, VC.blkF, VC.retF, VC.resV, VC.oneV, VC.evo, VC.bin, VC.binI, VC.cmpI, VC.arithI, VC.ldv, VC.slv, VC.pickP, VC.holds, VC.chainOf, VC.look, VC.junk, VC.put, VC.eff, VC.callee, VC.pureB, VC.rdK, VC.rdKs, VC.okKs, VC.eqKs, VC.fillL, VC.putL, VC.stW, VC.stOK, VC.mixF, VC.setAll, Nat.reduceAdd, Nat.reduceSub, Nat.reduceMul, if_true, if_false, ↓reduceIte, forall_const, implies_true, reduceCtorEq, ne_eq, Nat.reduceBNe, Nat.reduceBEq, IntKind.signed, Nat.reduceEqDiff, Nat.reduceLeDiff, Nat.reduceLT, eq_self, Int.reduceEq, Int.reduceLT, Int.reduceLE, Int.reduceAdd, Int.reduceSub, VC.regC_nil, VC.regC_cons, VC.regCK_eq, VC.callQ, VC.tailQ, VC.goCall, VC.chStep]
  refine ⟨fun _ => fits_i64 (by omega) (by omega), fun w' hB => ⟨ret_bool ?_, hB⟩⟩
  rw [hR.cert hok hn b, show ((n : Int) - (f : Int)) = ((n - f : Nat) : Int) by omega]
  unfold certB; simp
end
end Go.Proofs.Ytnggjekppdlaoaa
