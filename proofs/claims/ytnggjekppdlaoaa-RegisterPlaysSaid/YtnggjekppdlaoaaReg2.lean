/- Many copies as one: where all lies; an op begins. -/
import Derived.Test.YtnggjekppdlaoaaReg1
namespace Go.Proofs.Ytnggjekppdlaoaa
open Go Go.RowKit Go.VC
set_option linter.unusedSimpArgs false
set_option linter.unusedVariables false

structure GA where
  mb : Nat
  gc : Nat
  vo : Value
  pb : Nat → Nat
  ab : Nat → Nat
abbrev ptrV (b : Nat) : Value := .pointer (some ⟨b, 0, none⟩)
def nowP (a : GA) (o : Option Nat) : Option Addr := o.map fun i => ⟨a.pb i, 0, none⟩
abbrev worldC (n : Nat) (a : GA) (s : RS) : List Value := [.slice (some ⟨a.gc, 0, none⟩) n n, a.vo, .pointer (nowP a (s.now 0)), .pointer (nowP a (s.now 1)), .pointer (nowP a (s.now 2)), .pointer (nowP a (s.now 3))]
abbrev opC (a : GA) (i : Nat) (o : OpS) : List Value := [ptrV (a.ab i), .int .i64 o.b.n, .int .i64 o.b.who, .int .i64 o.b.val, .bool o.second, .int .u32 o.seen, .int .i64 o.many]
abbrev apC (o : OpS) : List Value := [.int .i64 o.who, .int .i64 0, .bool o.wr, .int .i64 o.val, .int .i64 o.frm, .int .i64 o.to]
def opB (a : GA) (op : Nat → OpS) (i : Nat) : List Ob := [oBox (a.pb i) (opC a i (op i)), oBox (a.ab i) (apC (op i))]
def ptrs (a : GA) (k : Nat) : List Value := (List.range k).map fun i => ptrV (a.pb i)
abbrev GHead (n : Nat) (a : GA) (s : RS) : List Ob := [oBox a.mb (worldC n a s), oRecs a.gc n 3 (fun i => stL (s.cp i)), oOwn 137 1 s.k a.vo (ptrs a s.k)]
def GObs (n : Nat) (a : GA) (s : RS) : List Ob := GHead n a s ++ (List.range s.k).flatMap (opB a s.op)
def restB (a : GA) (op : Nat → OpS) (k i : Nat) : List Ob := ((List.range k).erase i).flatMap (opB a op)
def GFront (n : Nat) (a : GA) (s : RS) (i : Nat) : List Ob := GHead n a s ++ (opB a s.op i ++ restB a s.op s.k i)
theorem flatMap_same {α β : Type} {f g : α → List β} : ∀ {l : List α}, (∀ x ∈ l, f x = g x) → l.flatMap f = l.flatMap g
  | [], _ => rfl
  | x :: l, h => by
    rw [List.flatMap_cons, List.flatMap_cons, h x (by simp), flatMap_same fun y hy => h y (by simp [hy])]
theorem mem_rest {k i j : Nat} (h : j ∈ (List.range k).erase i) : j ≠ i ∧ j < k := by
  have := (List.nodup_range (n := k)).mem_erase_iff.1 h
  exact ⟨this.1, List.mem_range.1 this.2⟩
theorem gfront {n : Nat} {a : GA} {s : RS} {i : Nat} (hi : i < s.k) : (GObs n a s).Perm (GFront n a s i) := by
  unfold GObs GFront restB
  refine List.Perm.append_left _ ?_
  have := (List.perm_cons_erase (List.mem_range.2 hi)).flatMap_right (opB a s.op)
  rw [List.flatMap_cons] at this
  exact this
theorem restB_upd {a : GA} {op : Nat → OpS} {k i : Nat} {o : OpS} : restB a (upd op i o) k i = restB a op k i :=
  flatMap_same fun j hj => by unfold opB; rw [upd_other (mem_rest hj).1]
section
variable {B n t : Nat} {a : GA} {s : RS} {w : World}
theorem g_box (h : Hp B (GObs n a s) w) : Box w a.mb (worldC n a s) := h.get 0 rfl
theorem g_cp (h : Hp B (GObs n a s) w) {i : Nat} (hi : i < n) : w.cell? ⟨a.gc, i * 3, none⟩ = some (.int .i64 (s.cp i).n) ∧ w.cell? ⟨a.gc, i * 3 + 1, none⟩ = some (.int .i64 (s.cp i).who) ∧ w.cell? ⟨a.gc, i * 3 + 2, none⟩ = some (.int .i64 (s.cp i).val) := by
  have hr : Recs w a.gc n 3 (fun i => stL (s.cp i)) := h.get 1 rfl
  exact ⟨hr.at (j := 0) hi (by omega) rfl, hr.at (j := 1) hi (by omega) rfl, hr.at (j := 2) hi (by omega) rfl⟩
theorem g_op (h : Hp B (GObs n a s) w) {i : Nat} (hi : i < s.k) : Box w (a.pb i) (opC a i (s.op i)) ∧ Box w (a.ab i) (apC (s.op i)) := by
  have h2 := h.perm (gfront hi)
  exact ⟨h2.get 3 rfl, h2.get 4 rfl⟩
theorem g_ops (h : Hp B (GObs n a s) w) {i : Nat} (hi : i < s.k) : ∃ g c, a.vo = .slice (some ⟨g, 0, none⟩) s.k c ∧ g < w.heap.size ∧ ∀ i, i < s.k → w.cell? ⟨g, i, none⟩ = some (ptrV (a.pb i)) := by
  have ho : OwnK w 0 137 1 s.k a.vo (ptrs a s.k) := h.get 2 rfl
  obtain ⟨g, c, e, _, hg⟩ := ho.form (by omega)
  rw [e] at ho
  refine ⟨g, c, e, hg, fun i hi => (ho.at (by omega)).1.trans ?_⟩
  simp [ptrs, hi]
theorem now_at {j : Nat} (hj : j < 4) : (worldC n a s)[2 + j]? = some (.pointer (nowP a (s.now j))) := by
  rcases j with _ | _ | _ | _ | j
  · rfl
  · rfl
  · rfl
  · rfl
  · omega
abbrev callL (c : Call) : List Value := [.int .i64 c.kind, .int .i64 c.who, .int .i64 c.at_, .int .i64 c.of_, .bool c.wr, .int .i64 c.val]
abbrev callV (c : Call) : Value := .agg #[.int .i64 c.kind, .int .i64 c.who, .int .i64 c.at_, .int .i64 c.of_, .bool c.wr, .int .i64 c.val]
def GPost (B n : Nat) (a : GA) (s : RS) (w : World) (r : Int × RS) (e : Ending) (w' : World) : Prop :=
  e = .returned (.int .i64 r.1) ∧ ∃ a', a'.mb = a.mb ∧ a'.gc = a.gc ∧ St B (GObs n a s) w (GObs n a' r.2) w'
theorem GPost.same (h : Hp B (GObs n a s) w) {w' : World} (hB : Below w.heap.size w w') {x : Int} {r : Int × RS} (hr : r = (x, s)) : GPost B n a s w r (.returned (.int .i64 x)) w' := by
  subst hr
  exact ⟨rfl, a, rfl, rfl, h.below_st hB⟩
theorem GPost.lift {w2 w' : World} {r : Int × RS} {e : Ending} (h : Hp B (GObs n a s) w) (hB : Below w.heap.size w w2) (k : GPost B n a s w2 r e w') : GPost B n a s w r e w' := by
  obtain ⟨h1, a', h2, h3, h4⟩ := k
  exact ⟨h1, a', h2, h3, (h.below_st hB).trans h4⟩
theorem worldC_begin {v : Value} {pb ab : Nat → Nat} {j x : Nat} {now : Nat → Option Nat} (hj : j < 4) (hn : ∀ i l, s.now i = some l → pb l = a.pb l) (hx : pb s.k = x) {s' : RS} (hs : s'.now = upd s.now j (some s.k)) :
    worldC n ⟨a.mb, a.gc, v, pb, ab⟩ s' = ((worldC n a s).set 1 v).set (2 + j) (ptrV x) := by
  have hP : ∀ i, i ≠ j → nowP ⟨a.mb, a.gc, v, pb, ab⟩ (upd s.now j (some s.k) i) = nowP a (s.now i) := fun i hi => by
    rw [upd_other hi]
    cases h : s.now i with
    | none => rfl
    | some l => show some (⟨pb l, 0, none⟩ : Addr) = some ⟨a.pb l, 0, none⟩; rw [hn i l h]
  have hJ : nowP ⟨a.mb, a.gc, v, pb, ab⟩ (upd s.now j (some s.k) j) = some ⟨x, 0, none⟩ := by
    rw [upd_same]
    show some (⟨pb s.k, 0, none⟩ : Addr) = some ⟨x, 0, none⟩
    rw [hx]
  unfold worldC
  rw [hs]
  rcases j with _ | _ | _ | _ | j
  · rw [hJ, hP 1 (by omega), hP 2 (by omega), hP 3 (by omega)]; rfl
  · rw [hJ, hP 0 (by omega), hP 2 (by omega), hP 3 (by omega)]; rfl
  · rw [hJ, hP 0 (by omega), hP 1 (by omega), hP 3 (by omega)]; rfl
  · rw [hJ, hP 0 (by omega), hP 1 (by omega), hP 2 (by omega)]; rfl
  · omega
/-- What the world is behind a beginning. -/
theorem begin_end {t : Nat} {c : Call} {j x y : Nat} {v : Value} {L : List Ob} {w' : World} (hok : ROK n t s) (hj : j < 4)
    (st : St B L w (oBox x [ptrV y, .int .i64 0, .int .i64 0, .int .i64 0, .bool false, .int .u32 0, .int .i64 0] :: oBox y (apC (newOp c t)) :: oBox a.mb (((worldC n a s).set 1 v).set (2 + j) (ptrV x)) :: oRecs a.gc n 3 (fun i => stL (s.cp i)) :: oOwn 137 1 (s.k + 1) v (ptrs a s.k ++ [ptrV x]) :: (List.range s.k).flatMap (opB a s.op)) w') :
    St B L w (GObs n ⟨a.mb, a.gc, v, upd a.pb s.k x, upd a.ab s.k y⟩ { s with k := s.k + 1, op := upd s.op s.k (newOp c t), now := upd s.now j (some s.k) }) w' := by
  refine st.perm (List.Perm.refl _) ?_
  have e1 := worldC_begin (n := n) (a := a) (s := s) (v := v) (pb := upd a.pb s.k x) (ab := upd a.ab s.k y) (now := s.now) (x := x) hj (fun i l h => upd_other (by have := (hok.now i l h).1; omega)) (upd_same _ _ _) (s' := { s with k := s.k + 1, op := upd s.op s.k (newOp c t), now := upd s.now j (some s.k) }) rfl
  have e2 : ptrs ⟨a.mb, a.gc, v, upd a.pb s.k x, upd a.ab s.k y⟩ (s.k + 1) = ptrs a s.k ++ [ptrV x] := by
    unfold ptrs
    rw [List.range_succ, List.map_append]
    refine congr (congrArg _ (List.map_congr_left fun i hi => ?_)) ?_
    · have := List.mem_range.1 hi
      show ptrV (upd a.pb s.k x i) = ptrV (a.pb i)
      rw [upd_other (by omega)]
    · show [ptrV (upd a.pb s.k x s.k)] = [ptrV x]
      rw [upd_same]
  have e3 : (List.range (s.k + 1)).flatMap (opB ⟨a.mb, a.gc, v, upd a.pb s.k x, upd a.ab s.k y⟩ (upd s.op s.k (newOp c t))) = (List.range s.k).flatMap (opB a s.op) ++ [oBox x [ptrV y, .int .i64 0, .int .i64 0, .int .i64 0, .bool false, .int .u32 0, .int .i64 0], oBox y (apC (newOp c t))] := by
    rw [List.range_succ, List.flatMap_append]
    refine congr (congrArg _ (flatMap_same fun i hi => ?_)) ?_
    · have := List.mem_range.1 hi
      unfold opB
      show [oBox (upd a.pb s.k x i) [ptrV (upd a.ab s.k y i), _, _, _, _, _, _], oBox (upd a.ab s.k y i) _] = _
      rw [upd_other (f := a.pb) (by omega), upd_other (f := a.ab) (by omega), upd_other (f := s.op) (by omega)]
    · show opB _ _ s.k ++ [] = _
      unfold opB
      show [oBox (upd a.pb s.k x s.k) [ptrV (upd a.ab s.k y s.k), _, _, _, _, _, _], oBox (upd a.ab s.k y s.k) _] = _
      rw [upd_same, upd_same, upd_same]
      rfl
  unfold GObs GHead
  rw [e1]
  show List.Perm _ ([oBox a.mb _, oRecs a.gc n 3 _, oOwn 137 1 (s.k + 1) v (ptrs ⟨a.mb, a.gc, v, upd a.pb s.k x, upd a.ab s.k y⟩ (s.k + 1))] ++ (List.range (s.k + 1)).flatMap (opB ⟨a.mb, a.gc, v, upd a.pb s.k x, upd a.ab s.k y⟩ (upd s.op s.k (newOp c t))))
  rw [e2, e3]
  exact List.perm_append_comm (l₁ := [_, _])

set_option maxRecDepth 8000 in
set_option maxHeartbeats 4000000 in
theorem begin_any (h : Hp B (GObs n a s) w) (hok : ROK n t s) (ht : t ≤ 120) {c : Call} (hw : 0 ≤ c.who ∧ c.who < 4) :
    Calls Try.prog 80 #[.pointer (some ⟨a.mb, 0, none⟩), callV c, .int .i64 t] w (GPost B n a s w (rbegin c t s)) := by
  have x0 := Box.new w (callL c) 142
  have hB0 : Below w.heap.size w (w.alloc (.cells (callL c).toArray 142)) := (Below.refl _ _).alloc (Nat.le_refl _) _
  have hz : (w.alloc (.cells (callL c).toArray 142)).heap.size = w.heap.size + 1 := by simp
  refine calls_vc (rs := [.tmp 6]) Fa.mix Try.func80 rfl Try.ntmps80 rfl (by kernel_rfl) (Nat.le_of_ble_eq_true rfl) ?_
  (repeat rw [vc_seq]); refine vc_plain _ fun Q hQ => ?_; simp -dsimp only [Fa.F80, VC.Now, VC.vc_skip, VC.vc_ret, VC.vc_exit, VC.vc_block, VC.vc_cond, VC.vc_region, VC.lib, VC.regQ, VC.loopK, VC.reg, VC.opP, VC.pv, VC.thenF, VC.blkF, VC.retF, VC.resV, VC.oneV, VC.evo, VC.bin, VC.binI, VC.cmpI, VC.arithI, VC.ldv, VC.slv, VC.pickP, VC.holds, VC.chainOf, VC.look, VC.junk, VC.put, VC.eff, VC.callee, VC.pureB, VC.rdK, VC.rdKs, VC.okKs, VC.eqKs, VC.fillL, VC.putL, VC.stW, VC.stOK, VC.mixF, VC.setAll, Nat.reduceAdd, Nat.reduceSub, Nat.reduceMul, if_true, if_false, ↓reduceIte, forall_const, implies_true, reduceCtorEq, ne_eq, Nat.reduceBNe, Nat.reduceBEq, IntKind.signed, Nat.reduceEqDiff, Nat.reduceLeDiff, Nat.reduceLT, eq_self, Int.reduceEq, Int.reduceLT, Int.reduceLE, Int.reduceAdd, Int.reduceSub, VC.regC_nil, VC.regC_cons, VC.regCK_eq, VC.callQ, VC.tailQ, VC.goCall, VC.chStep]
  change Q _ _ (w.alloc (.cells (callL c).toArray 142))
  generalize w.alloc (.cells (callL c).toArray 142) = w1 at x0 hB0 hz ⊢
  generalize hsb : w.heap.size = sb at x0 hz ⊢
  have h1 := h.below hB0
  have z1 := x0.at (i := 1) rfl
  have z4 := x0.at (i := 4) rfl
  have z5 := x0.at (i := 5) rfl
  obtain ⟨j, hj⟩ : ∃ j : Nat, c.who = j := ⟨c.who.toNat, by omega⟩
  have hj4 : j < 4 := by omega
  have hjN : c.who.toNat = j := by omega
  have hmb := (g_box h1).1
  have hn0 := (g_box h1).at (i := 2 + j) (now_at hj4)
  rw [hj] at z1
  cases hnow : s.now j with
  | some i =>
    rw [hnow] at hn0
    have hr : rbegin c t s = (6, s) := by unfold rbegin; rw [hjN, hnow]; rfl
    subst hQ; simp -dsimp only [VC.Now, VC.vc_skip, VC.vc_ret, VC.vc_exit, VC.vc_block, VC.vc_cond, VC.vc_region, VC.lib, VC.regQ, VC.loopK, VC.reg, VC.opP, VC.pv, VC.thenF, VC.blkF, VC.retF, VC.resV, VC.oneV, VC.evo, VC.bin, VC.binI, VC.cmpI, VC.arithI, VC.ldv, VC.slv, VC.pickP, VC.holds, VC.chainOf, VC.look, VC.junk, VC.put, VC.eff, VC.callee, VC.pureB, VC.rdK, VC.rdKs, VC.okKs, VC.eqKs, VC.fillL, VC.putL, VC.stW, VC.stOK, VC.mixF, VC.setAll, Nat.reduceAdd, Nat.reduceSub, Nat.reduceMul, if_true, if_false, ↓reduceIte, forall_const, implies_true, reduceCtorEq, ne_eq, Nat.reduceBNe, Nat.reduceBEq, IntKind.signed, Nat.reduceEqDiff, Nat.reduceLeDiff, Nat.reduceLT, eq_self, Int.reduceEq, Int.reduceLT, Int.reduceLE, Int.reduceAdd, Int.reduceSub, VC.regC_nil, VC.regC_cons, VC.regCK_eq, VC.callQ, VC.tailQ, VC.goCall, VC.chStep]; (repeat rw [vc_seq]); refine vc_plain _ fun Q hQ => ?_; simp -dsimp only [Fa.F80, rdI_of z1, z1, hmb, Int.toNat_natCast, rdP_of hn0, hn0, nowP, VC.Now, VC.vc_skip, VC.vc_ret, VC.vc_exit, VC.vc_block, VC.vc_cond, VC.vc_region, VC.lib, VC.regQ, VC.loopK, VC.reg, VC.opP, VC.pv, VC.thenF, VC.blkF, VC.retF, VC.resV, VC.oneV, VC.evo, VC.bin, VC.binI, VC.cmpI, VC.arithI, VC.ldv, VC.slv, VC.pickP, VC.holds, VC.chainOf, VC.look, VC.junk, VC.put, VC.eff, VC.callee, VC.pureB, VC.rdK, VC.rdKs, VC.okKs, VC.eqKs, VC.fillL, VC.putL, VC.stW, VC.stOK, VC.mixF, VC.setAll, Nat.reduceAdd, Nat.reduceSub, Nat.reduceMul, if_true, if_false, ↓reduceIte, forall_const, implies_true, reduceCtorEq, ne_eq, Nat.reduceBNe, Nat.reduceBEq, IntKind.signed, Nat.reduceEqDiff, Nat.reduceLeDiff, Nat.reduceLT, eq_self, Int.reduceEq, Int.reduceLT, Int.reduceLE, Int.reduceAdd, Int.reduceSub, VC.regC_nil, VC.regC_cons, VC.regCK_eq, VC.callQ, VC.tailQ, VC.goCall, VC.chStep]
    refine ⟨⟨by omega, by omega⟩, fun m => ?_⟩
    subst hQ
    simp -dsimp only [Fa.F80, Option.isNone_some, Option.isNone_none, VC.Now, VC.vc, VC.lib, VC.regQ, VC.loopK, VC.reg, VC.opP, VC.pv, VC.thenF, VC.blkF, VC.retF, VC.resV, VC.oneV, VC.evo, VC.bin, VC.binI, VC.cmpI, VC.arithI, VC.ldv, VC.slv, VC.pickP, VC.holds, VC.chainOf, VC.look, VC.junk, VC.put, VC.eff, VC.callee, VC.pureB, VC.rdK, VC.rdKs, VC.okKs, VC.eqKs, VC.fillL, VC.putL, VC.stW, VC.stOK, VC.mixF, VC.setAll, Nat.reduceAdd, Nat.reduceSub, Nat.reduceMul, if_true, if_false, ↓reduceIte, forall_const, implies_true, reduceCtorEq, ne_eq, Nat.reduceBNe, Nat.reduceBEq, IntKind.signed, Nat.reduceEqDiff, Nat.reduceLeDiff, Nat.reduceLT, eq_self, Int.reduceEq, Int.reduceLT, Int.reduceLE, Int.reduceAdd, Int.reduceSub, VC.regC_nil, VC.regC_cons, VC.regCK_eq, VC.callQ, VC.tailQ, VC.goCall, VC.chStep]
    exact GPost.same h (hB0.trans ((below_drewN (Below.refl _ w1) m).mono hB0.size)) hr
  | none =>
    rw [hnow] at hn0
    have hr : rbegin c t s = (0, { s with k := s.k + 1, op := upd s.op s.k (newOp c t), now := upd s.now j (some s.k) }) := by unfold rbegin; rw [hjN, hnow]; rfl
    subst hQ; simp -dsimp only [VC.Now, VC.vc_skip, VC.vc_ret, VC.vc_exit, VC.vc_block, VC.vc_cond, VC.vc_region, VC.lib, VC.regQ, VC.loopK, VC.reg, VC.opP, VC.pv, VC.thenF, VC.blkF, VC.retF, VC.resV, VC.oneV, VC.evo, VC.bin, VC.binI, VC.cmpI, VC.arithI, VC.ldv, VC.slv, VC.pickP, VC.holds, VC.chainOf, VC.look, VC.junk, VC.put, VC.eff, VC.callee, VC.pureB, VC.rdK, VC.rdKs, VC.okKs, VC.eqKs, VC.fillL, VC.putL, VC.stW, VC.stOK, VC.mixF, VC.setAll, Nat.reduceAdd, Nat.reduceSub, Nat.reduceMul, if_true, if_false, ↓reduceIte, forall_const, implies_true, reduceCtorEq, ne_eq, Nat.reduceBNe, Nat.reduceBEq, IntKind.signed, Nat.reduceEqDiff, Nat.reduceLeDiff, Nat.reduceLT, eq_self, Int.reduceEq, Int.reduceLT, Int.reduceLE, Int.reduceAdd, Int.reduceSub, VC.regC_nil, VC.regC_cons, VC.regCK_eq, VC.callQ, VC.tailQ, VC.goCall, VC.chStep]; (repeat rw [vc_seq]); refine vc_plain _ fun Q hQ => ?_; simp -dsimp only [Fa.F80, rdI_of z1, z1, hmb, Int.toNat_natCast, rdP_of hn0, hn0, nowP, VC.Now, VC.vc_skip, VC.vc_ret, VC.vc_exit, VC.vc_block, VC.vc_cond, VC.vc_region, VC.lib, VC.regQ, VC.loopK, VC.reg, VC.opP, VC.pv, VC.thenF, VC.blkF, VC.retF, VC.resV, VC.oneV, VC.evo, VC.bin, VC.binI, VC.cmpI, VC.arithI, VC.ldv, VC.slv, VC.pickP, VC.holds, VC.chainOf, VC.look, VC.junk, VC.put, VC.eff, VC.callee, VC.pureB, VC.rdK, VC.rdKs, VC.okKs, VC.eqKs, VC.fillL, VC.putL, VC.stW, VC.stOK, VC.mixF, VC.setAll, Nat.reduceAdd, Nat.reduceSub, Nat.reduceMul, if_true, if_false, ↓reduceIte, forall_const, implies_true, reduceCtorEq, ne_eq, Nat.reduceBNe, Nat.reduceBEq, IntKind.signed, Nat.reduceEqDiff, Nat.reduceLeDiff, Nat.reduceLT, eq_self, Int.reduceEq, Int.reduceLT, Int.reduceLE, Int.reduceAdd, Int.reduceSub, VC.regC_nil, VC.regC_cons, VC.regCK_eq, VC.callQ, VC.tailQ, VC.goCall, VC.chStep]
    refine ⟨⟨by omega, by omega⟩, fun m => ?_⟩
    have hB1 : Below w.heap.size w (w1.drewN m) := hB0.trans ((below_drewN (Below.refl _ w1) m).mono hB0.size)
    replace x0 : Box (w1.drewN m) sb (callL c) := x0.below (below_drewN (Below.refl _ w1) m)
    replace hz : (w1.drewN m).heap.size = sb + 1 := hz
    replace h1 := h1.drewN m
    generalize w1.drewN m = w2 at x0 hz h1 hB1 ⊢
    clear hB0 hn0 hmb
    replace z1 := x0.at (i := 1) rfl
    replace z4 := x0.at (i := 4) rfl
    replace z5 := x0.at (i := 5) rfl
    subst hQ
    (repeat rw [vc_seq]); refine vc_plain _ fun Q hQ => ?_; simp -dsimp only [Fa.F80, Option.isNone_some, Option.isNone_none, rdI_of z1, z1, rdB_of z4, z4, VC.Now, VC.vc_skip, VC.vc_ret, VC.vc_exit, VC.vc_block, VC.vc_cond, VC.vc_region, VC.lib, VC.regQ, VC.loopK, VC.reg, VC.opP, VC.pv, VC.thenF, VC.blkF, VC.retF, VC.resV, VC.oneV, VC.evo, VC.bin, VC.binI, VC.cmpI, VC.arithI, VC.ldv, VC.slv, VC.pickP, VC.holds, VC.chainOf, VC.look, VC.junk, VC.put, VC.eff, VC.callee, VC.pureB, VC.rdK, VC.rdKs, VC.okKs, VC.eqKs, VC.fillL, VC.putL, VC.stW, VC.stOK, VC.mixF, VC.setAll, Nat.reduceAdd, Nat.reduceSub, Nat.reduceMul, if_true, if_false, ↓reduceIte, forall_const, implies_true, reduceCtorEq, ne_eq, Nat.reduceBNe, Nat.reduceBEq, IntKind.signed, Nat.reduceEqDiff, Nat.reduceLeDiff, Nat.reduceLT, eq_self, Int.reduceEq, Int.reduceLT, Int.reduceLE, Int.reduceAdd, Int.reduceSub, VC.regC_nil, VC.regC_cons, VC.regCK_eq, VC.callQ, VC.tailQ, VC.goCall, VC.chStep]
    subst hQ
    simp -dsimp only [Fa.F80, Option.isNone_some, Option.isNone_none, VC.Now, VC.vc_skip, VC.vc_ret, VC.vc_exit, VC.vc_block, VC.vc_cond, VC.vc_region, VC.lib, VC.regQ, VC.loopK, VC.reg, VC.opP, VC.pv, VC.thenF, VC.blkF, VC.retF, VC.resV, VC.oneV, VC.evo, VC.bin, VC.binI, VC.cmpI, VC.arithI, VC.ldv, VC.slv, VC.pickP, VC.holds, VC.chainOf, VC.look, VC.junk, VC.put, VC.eff, VC.callee, VC.pureB, VC.rdK, VC.rdKs, VC.okKs, VC.eqKs, VC.fillL, VC.putL, VC.stW, VC.stOK, VC.mixF, VC.setAll, Nat.reduceAdd, Nat.reduceSub, Nat.reduceMul, if_true, if_false, ↓reduceIte, forall_const, implies_true, reduceCtorEq, ne_eq, Nat.reduceBNe, Nat.reduceBEq, IntKind.signed, Nat.reduceEqDiff, Nat.reduceLeDiff, Nat.reduceLT, eq_self, Int.reduceEq, Int.reduceLT, Int.reduceLE, Int.reduceAdd, Int.reduceSub, VC.regC_nil, VC.regC_cons, VC.regCK_eq, VC.callQ, VC.tailQ, VC.goCall, VC.chStep]
    (repeat rw [vc_seq]); refine vc_plain _ fun Q hQ => ?_; simp -dsimp only [Fa.F80, rdI_of z1, z1, rdB_of z4, z4, VC.Now, VC.vc_skip, VC.vc_ret, VC.vc_exit, VC.vc_block, VC.vc_cond, VC.vc_region, VC.lib, VC.regQ, VC.loopK, VC.reg, VC.opP, VC.pv, VC.thenF, VC.blkF, VC.retF, VC.resV, VC.oneV, VC.evo, VC.bin, VC.binI, VC.cmpI, VC.arithI, VC.ldv, VC.slv, VC.pickP, VC.holds, VC.chainOf, VC.look, VC.junk, VC.put, VC.eff, VC.callee, VC.pureB, VC.rdK, VC.rdKs, VC.okKs, VC.eqKs, VC.fillL, VC.putL, VC.stW, VC.stOK, VC.mixF, VC.setAll, Nat.reduceAdd, Nat.reduceSub, Nat.reduceMul, if_true, if_false, ↓reduceIte, forall_const, implies_true, reduceCtorEq, ne_eq, Nat.reduceBNe, Nat.reduceBEq, IntKind.signed, Nat.reduceEqDiff, Nat.reduceLeDiff, Nat.reduceLT, eq_self, Int.reduceEq, Int.reduceLT, Int.reduceLE, Int.reduceAdd, Int.reduceSub, VC.regC_nil, VC.regC_cons, VC.regCK_eq, VC.callQ, VC.tailQ, VC.goCall, VC.chStep]
    have st2 := h1.st_add (o := oBox w2.heap.size (apC ⟨c.who, c.wr, 0, t, -1, sto0, false, 0, 0⟩)) ((Below.refl _ w2).alloc (Nat.le_refl _) (.cells (apC ⟨c.who, c.wr, 0, t, -1, sto0, false, 0, 0⟩).toArray 145)) (Box.new w2 _ _) (fun g hg => by cases hg; exact Nat.le_refl _)
    change St _ _ _ _ (w2.alloc (.cells #[.int .i64 c.who, .int .i64 0, .bool c.wr, .int .i64 0, .int .i64 t, .int .i64 (-1)] 145)) at st2
    change Q _ _ ((w2.alloc (.cells #[.int .i64 c.who, .int .i64 0, .bool c.wr, .int .i64 0, .int .i64 t, .int .i64 (-1)] 145)).alloc (.cells #[ptrV w2.heap.size, .int .i64 0, .int .i64 0, .int .i64 0, .bool false, .int .u32 0, .int .i64 0] 150))
    have hz2 : (w2.alloc (.cells #[.int .i64 c.who, .int .i64 0, .bool c.wr, .int .i64 0, .int .i64 t, .int .i64 (-1)] 145)).heap.size = w2.heap.size + 1 := by simp
    have x1 := x0.below ((Below.refl _ w2).alloc (Nat.le_refl _) (.cells #[.int .i64 c.who, .int .i64 0, .bool c.wr, .int .i64 0, .int .i64 t, .int .i64 (-1)] 145))
    change Box (w2.alloc (.cells #[.int .i64 c.who, .int .i64 0, .bool c.wr, .int .i64 0, .int .i64 t, .int .i64 (-1)] 145)) _ _ at x1
    generalize (w2.alloc (.cells #[.int .i64 c.who, .int .i64 0, .bool c.wr, .int .i64 0, .int .i64 t, .int .i64 (-1)] 145)) = w3 at st2 hz2 x1 ⊢
    have st3 := st2.hp.st_add (o := oBox w3.heap.size [ptrV w2.heap.size, .int .i64 0, .int .i64 0, .int .i64 0, .bool false, .int .u32 0, .int .i64 0]) ((Below.refl _ w3).alloc (Nat.le_refl _) (.cells #[ptrV w2.heap.size, .int .i64 0, .int .i64 0, .int .i64 0, .bool false, .int .u32 0, .int .i64 0] 150)) (Box.new w3 _ _) (fun g hg => by cases hg; exact Nat.le_refl _)
    change St _ _ _ _ (w3.alloc (.cells #[ptrV w2.heap.size, .int .i64 0, .int .i64 0, .int .i64 0, .bool false, .int .u32 0, .int .i64 0] 150)) at st3
    have x2 := x1.below ((Below.refl _ w3).alloc (Nat.le_refl _) (.cells #[ptrV w2.heap.size, .int .i64 0, .int .i64 0, .int .i64 0, .bool false, .int .u32 0, .int .i64 0] 150))
    change Box (w3.alloc (.cells #[ptrV w2.heap.size, .int .i64 0, .int .i64 0, .int .i64 0, .bool false, .int .u32 0, .int .i64 0] 150)) _ _ at x2
    have st4 := st2.trans st3
    have hz3 : (w3.alloc (.cells #[ptrV w2.heap.size, .int .i64 0, .int .i64 0, .int .i64 0, .bool false, .int .u32 0, .int .i64 0] 150)).heap.size = w3.heap.size + 1 := by simp
    generalize w3.alloc (.cells #[ptrV w2.heap.size, .int .i64 0, .int .i64 0, .int .i64 0, .bool false, .int .u32 0, .int .i64 0] 150) = w4 at st4 x2 hz3 ⊢
    clear st2 st3 x1 x0 z1 z4 z5
    rw [hz2] at st4 hz3
    have hsw : sb < w2.heap.size := by omega
    have hBw : B ≤ w2.heap.size := h1.base
    generalize w2.heap.size = ab at st4 hsw hBw hz3 ⊢
    clear hz2 hz
    have nx : ∀ cs cs' : List Value, ¬ foot (oBox (ab + 1) cs :: oBox ab cs' :: GObs n a s) sb := fun cs cs' => by
      rw [foot_cons, foot_cons]
      rintro (hf | hf | hf)
      · have : ab + 1 = sb := Option.some.inj hf
        omega
      · have : ab = sb := Option.some.inj hf
        omega
      · have := (h.foot_lt hf).2
        omega
    have z4 := x2.at (i := 4) rfl
    have z5 := x2.at (i := 5) rfl
    have z1 := x2.at (i := 1) rfl
    have y0 := (st4.hp.get 0 rfl : Box w4 (ab + 1) _).at (i := 0) rfl
    have hpl := (st4.hp.get 0 rfl : Box w4 (ab + 1) _).1
    have hal := (st4.hp.get 1 rfl : Box w4 ab _).1
    cases hwr : c.wr with
    | true =>
      rw [hwr] at z4
      subst hQ
      simp -dsimp only [Fa.F80, VC.Now, VC.vc_skip, VC.vc_ret, VC.vc_exit, VC.vc_block, VC.vc_cond, VC.vc_region, VC.lib, VC.regQ, VC.loopK, VC.reg, VC.opP, VC.pv, VC.thenF, VC.blkF, VC.retF, VC.resV, VC.oneV, VC.evo, VC.bin, VC.binI, VC.cmpI, VC.arithI, VC.ldv, VC.slv, VC.pickP, VC.holds, VC.chainOf, VC.look, VC.junk, VC.put, VC.eff, VC.callee, VC.pureB, VC.rdK, VC.rdKs, VC.okKs, VC.eqKs, VC.fillL, VC.putL, VC.stW, VC.stOK, VC.mixF, VC.setAll, Nat.reduceAdd, Nat.reduceSub, Nat.reduceMul, if_true, if_false, ↓reduceIte, forall_const, implies_true, reduceCtorEq, ne_eq, Nat.reduceBNe, Nat.reduceBEq, IntKind.signed, Nat.reduceEqDiff, Nat.reduceLeDiff, Nat.reduceLT, eq_self, Int.reduceEq, Int.reduceLT, Int.reduceLE, Int.reduceAdd, Int.reduceSub, VC.regC_nil, VC.regC_cons, VC.regCK_eq, VC.callQ, VC.tailQ, VC.goCall, VC.chStep]
      (repeat rw [vc_seq]); refine vc_plain _ fun Q hQ => ?_; simp -dsimp only [Fa.F80, rdB_of z4, z4, VC.Now, VC.vc_skip, VC.vc_ret, VC.vc_exit, VC.vc_block, VC.vc_cond, VC.vc_region, VC.lib, VC.regQ, VC.loopK, VC.reg, VC.opP, VC.pv, VC.thenF, VC.blkF, VC.retF, VC.resV, VC.oneV, VC.evo, VC.bin, VC.binI, VC.cmpI, VC.arithI, VC.ldv, VC.slv, VC.pickP, VC.holds, VC.chainOf, VC.look, VC.junk, VC.put, VC.eff, VC.callee, VC.pureB, VC.rdK, VC.rdKs, VC.okKs, VC.eqKs, VC.fillL, VC.putL, VC.stW, VC.stOK, VC.mixF, VC.setAll, Nat.reduceAdd, Nat.reduceSub, Nat.reduceMul, if_true, if_false, ↓reduceIte, forall_const, implies_true, reduceCtorEq, ne_eq, Nat.reduceBNe, Nat.reduceBEq, IntKind.signed, Nat.reduceEqDiff, Nat.reduceLeDiff, Nat.reduceLT, eq_self, Int.reduceEq, Int.reduceLT, Int.reduceLE, Int.reduceAdd, Int.reduceSub, VC.regC_nil, VC.regC_cons, VC.regCK_eq, VC.callQ, VC.tailQ, VC.goCall, VC.chStep]
      subst hQ
      simp -dsimp only [Fa.F80, rdB_of z4, z4, VC.Now, VC.vc_skip, VC.vc_ret, VC.vc_exit, VC.vc_block, VC.vc_cond, VC.vc_region, VC.lib, VC.regQ, VC.loopK, VC.reg, VC.opP, VC.pv, VC.thenF, VC.blkF, VC.retF, VC.resV, VC.oneV, VC.evo, VC.bin, VC.binI, VC.cmpI, VC.arithI, VC.ldv, VC.slv, VC.pickP, VC.holds, VC.chainOf, VC.look, VC.junk, VC.put, VC.eff, VC.callee, VC.pureB, VC.rdK, VC.rdKs, VC.okKs, VC.eqKs, VC.fillL, VC.putL, VC.stW, VC.stOK, VC.mixF, VC.setAll, Nat.reduceAdd, Nat.reduceSub, Nat.reduceMul, if_true, if_false, ↓reduceIte, forall_const, implies_true, reduceCtorEq, ne_eq, Nat.reduceBNe, Nat.reduceBEq, IntKind.signed, Nat.reduceEqDiff, Nat.reduceLeDiff, Nat.reduceLT, eq_self, Int.reduceEq, Int.reduceLT, Int.reduceLE, Int.reduceAdd, Int.reduceSub, VC.regC_nil, VC.regC_cons, VC.regCK_eq, VC.callQ, VC.tailQ, VC.goCall, VC.chStep]
      refine WP_held 99 (fun j => j = ab) (.take 0 (.take 1 (.take 2 (.take 3 (.take 4 (.take 5 (.take 6 (.take 7 (.one 8 .done))))))))) Fa.mix (by kernel_rfl) rfl ?_
      have k3 : ((w4.drewN 1).cell? ⟨ab, 3, none⟩).isSome = true := by rw [((st4.drewN 1).hp.get 1 rfl : Box (w4.drewN 1) ab _).at (i := 3) rfl]; rfl
      have f3 := ((st4.drewN 1).hp.get 1 rfl : Box (w4.drewN 1) ab _).soft (i := 3) (by show 3 < 6; omega)
      have xb := x2.1
      have st5 := (st4.drewN 1).trans ((st4.drewN 1).hp.setBox 1 rfl 3 (.int .i64 c.val))
      have hag : Agree (fun j => j = ab) w4 ((w4.drewN 1).setCell ⟨ab, 3, none⟩ (.int .i64 c.val)) := (Agree.of_below (below_drewN (Below.refl _ w4) 1)).trans (Agree.setCell (w4.drewN 1) (.int .i64 c.val) (a := ⟨ab, 3, none⟩) rfl)
      have x2a := x2.agree hag (by omega)
      have h5 := st5.hp
      have b1 := (h5.get 2 rfl : Box ((w4.drewN 1).setCell ⟨ab, 3, none⟩ (.int .i64 c.val)) a.mb (worldC n a s)).at (i := 1) rfl
      have hmb := (h5.get 2 rfl : Box ((w4.drewN 1).setCell ⟨ab, 3, none⟩ (.int .i64 c.val)) a.mb (worldC n a s)).1
      have hown : OwnK ((w4.drewN 1).setCell ⟨ab, 3, none⟩ (.int .i64 c.val)) 0 137 1 s.k a.vo (ptrs a s.k) := h5.get 4 rfl
      obtain ⟨Ao, co, eo, _⟩ := id hown
      rw [eo] at b1
      have hkb := hok.k
      simp -dsimp only [VC.heldF_done, VC.heldF_last, VC.planF_done, VC.planF_take, VC.planF_one, VC.planF_two, VC.planK_eq, VC.heldF_take, VC.heldF_one, VC.heldF_two, VC.heldF_twoL, VC.heldK_eq, VC.okRd, Fa.F80, rdP_of y0, y0, rdI_of z5, z5, hpl, hal, xb, f3, rdSA_of b1, rdSN_of b1, rdSC_of b1, b1, hmb, VC.Now, VC.vc, VC.lib, VC.regQ, VC.loopK, VC.reg, VC.opP, VC.pv, VC.thenF, VC.blkF, VC.retF, VC.resV, VC.oneV, VC.evo, VC.bin, VC.binI, VC.cmpI, VC.arithI, VC.ldv, VC.slv, VC.pickP, VC.holds, VC.chainOf, VC.look, VC.junk, VC.put, VC.eff, VC.callee, VC.pureB, VC.rdK, VC.rdKs, VC.okKs, VC.eqKs, VC.fillL, VC.putL, VC.stW, VC.stOK, VC.mixF, VC.setAll, Nat.reduceAdd, Nat.reduceSub, Nat.reduceMul, if_true, if_false, ↓reduceIte, forall_const, implies_true, reduceCtorEq, ne_eq, Nat.reduceBNe, Nat.reduceBEq, IntKind.signed, Nat.reduceEqDiff, Nat.reduceLeDiff, Nat.reduceLT, eq_self, Int.reduceEq, Int.reduceLT, Int.reduceLE, Int.reduceAdd, Int.reduceSub, VC.regC_nil, VC.regC_cons, VC.regCK_eq, VC.callQ, VC.tailQ, VC.goCall, VC.chStep]
      refine ⟨by omega, by omega, k3, hag, ?_⟩
      have enew : newOp c t = ⟨c.who, c.wr, c.val, t, -1, sto0, false, 0, 0⟩ := by unfold newOp; rw [if_pos hwr]
      generalize ((w4.drewN 1).setCell ⟨ab, 3, none⟩ (.int .i64 c.val)) = w5 at *
      refine OPW_appK (v := a.vo) rfl Fa.apI136 (by rw [eo]; rfl) rfl rfl (by simp [Value.oneCell']) hown (Nat.zero_le _) (by omega) (by decide) fun v6 w6 ho6 hg6 hst6 => ?_
      obtain ⟨⟨r1, r2⟩, st6⟩ := h5.growField 2 4 rfl rfl (by decide) ho6 hg6 hst6 1 (by show 1 < 6; omega)
      obtain ⟨A6, c6, rfl, _⟩ := id ho6
      rw [VC.Now, VC.seqK_eq]
      have hmb6 : a.mb < w6.heap.size := by simpa using (st6.hp.get 2 rfl : Box _ a.mb _).1
      simp -dsimp only [Fa.F80, rdSA_of b1, rdSN_of b1, rdSC_of b1, b1, hmb6, VC.Now, VC.vc_skip, VC.vc_ret, VC.vc_exit, VC.vc_block, VC.vc_cond, VC.vc_region, VC.lib, VC.regQ, VC.loopK, VC.reg, VC.opP, VC.pv, VC.thenF, VC.blkF, VC.retF, VC.resV, VC.oneV, VC.evo, VC.bin, VC.binI, VC.cmpI, VC.arithI, VC.ldv, VC.slv, VC.pickP, VC.holds, VC.chainOf, VC.look, VC.junk, VC.put, VC.eff, VC.callee, VC.pureB, VC.rdK, VC.rdKs, VC.okKs, VC.eqKs, VC.fillL, VC.putL, VC.stW, VC.stOK, VC.mixF, VC.setAll, Nat.reduceAdd, Nat.reduceSub, Nat.reduceMul, if_true, if_false, ↓reduceIte, forall_const, implies_true, reduceCtorEq, ne_eq, Nat.reduceBNe, Nat.reduceBEq, IntKind.signed, Nat.reduceEqDiff, Nat.reduceLeDiff, Nat.reduceLT, eq_self, Int.reduceEq, Int.reduceLT, Int.reduceLE, Int.reduceAdd, Int.reduceSub, VC.regC_nil, VC.regC_cons, VC.regCK_eq, VC.callQ, VC.tailQ, VC.goCall, VC.chStep]
      refine ⟨⟨r1, r2⟩, ?_⟩
      have st7 := st5.trans st6
      have hBz := (st6.below h5)
      have x3 := x2a.agree st6.agree (nx _ _)
      clear r1 r2 ho6 hg6 hst6 st6 hown eo b1
      generalize w6.setCell ⟨a.mb, 1, none⟩ (.slice A6 (s.k + 1) c6) = w7 at st7 x3 hBz ⊢
      clear hmb6
      have b7 : Box w7 a.mb _ := st7.hp.get 2 rfl
      have hmb7 := b7.1
      have hsb7 := x3.1
      have z7 := x3.at (i := 1) rfl
      rw [hj] at z7
      have hcc : ((worldC n a s).set 1 (.slice A6 (s.k + 1) c6))[2 + j]? = some (.pointer (nowP a (s.now j))) := by
        rw [List.getElem?_set_ne (by omega)]; exact now_at hj4
      have k7 : (w7.cell? ⟨a.mb, 2 + j, none⟩).isSome = true := by rw [b7.at hcc]; rfl
      have f7 := b7.soft (i := 2 + j) (by show 2 + j < 6; omega)
      refine WP_held 99 (fun j => j = a.mb) (.take 0 (.take 1 (.take 2 (.take 3 (.take 4 (.take 5 (.take 6 (.one 7 .done)))))))) Fa.mix (by kernel_rfl) rfl ?_
      simp -dsimp only [VC.heldF_done, VC.heldF_last, VC.planF_done, VC.planF_take, VC.planF_one, VC.planF_two, VC.planK_eq, VC.heldF_take, VC.heldF_one, VC.heldF_two, VC.heldF_twoL, VC.heldK_eq, VC.okRd, Fa.F80, rdI_of z7, z7, hmb7, hsb7, k7, f7, Int.toNat_natCast, VC.Now, VC.vc, VC.lib, VC.regQ, VC.loopK, VC.reg, VC.opP, VC.pv, VC.thenF, VC.blkF, VC.retF, VC.resV, VC.oneV, VC.evo, VC.bin, VC.binI, VC.cmpI, VC.arithI, VC.ldv, VC.slv, VC.pickP, VC.holds, VC.chainOf, VC.look, VC.junk, VC.put, VC.eff, VC.callee, VC.pureB, VC.rdK, VC.rdKs, VC.okKs, VC.eqKs, VC.fillL, VC.putL, VC.stW, VC.stOK, VC.mixF, VC.setAll, Nat.reduceAdd, Nat.reduceSub, Nat.reduceMul, if_true, if_false, ↓reduceIte, forall_const, implies_true, reduceCtorEq, ne_eq, Nat.reduceBNe, Nat.reduceBEq, IntKind.signed, Nat.reduceEqDiff, Nat.reduceLeDiff, Nat.reduceLT, eq_self, Int.reduceEq, Int.reduceLT, Int.reduceLE, Int.reduceAdd, Int.reduceSub, VC.regC_nil, VC.regC_cons, VC.regCK_eq, VC.callQ, VC.tailQ, VC.goCall, VC.chStep]
      refine ⟨fun e => nx [] [] (foot_at (i := 2) rfl (by rw [e]; rfl)), ⟨by omega, by omega⟩, (Agree.of_below (below_drewN (Below.refl _ w7) 1)).trans (Agree.setCell (w7.drewN 1) (ptrV (ab + 1)) (a := ⟨a.mb, 2 + j, none⟩) rfl), ?_⟩
      have st8 := (st7.drewN 1).trans ((st7.drewN 1).hp.setBox 2 rfl (2 + j) (ptrV (ab + 1)))
      have hBf := (st8.below h1)
      have st9 := begin_end (c := c) (t := t) (j := j) (x := ab + 1) (y := ab) (v := .slice A6 (s.k + 1) c6) hok hj4 (by rw [enew]; exact st8)
      refine ⟨by rw [hr], ⟨a.mb, a.gc, .slice A6 (s.k + 1) c6, upd a.pb s.k (ab + 1), upd a.ab s.k ab⟩, rfl, rfl, ?_⟩
      rw [hr]
      exact (h.below_st hB1).trans st9
    | false =>
      rw [hwr] at z4
      have st5 := st4
      subst hQ
      simp -dsimp only [Fa.F80, VC.Now, VC.vc_skip, VC.vc_ret, VC.vc_exit, VC.vc_block, VC.vc_cond, VC.vc_region, VC.lib, VC.regQ, VC.loopK, VC.reg, VC.opP, VC.pv, VC.thenF, VC.blkF, VC.retF, VC.resV, VC.oneV, VC.evo, VC.bin, VC.binI, VC.cmpI, VC.arithI, VC.ldv, VC.slv, VC.pickP, VC.holds, VC.chainOf, VC.look, VC.junk, VC.put, VC.eff, VC.callee, VC.pureB, VC.rdK, VC.rdKs, VC.okKs, VC.eqKs, VC.fillL, VC.putL, VC.stW, VC.stOK, VC.mixF, VC.setAll, Nat.reduceAdd, Nat.reduceSub, Nat.reduceMul, if_true, if_false, ↓reduceIte, forall_const, implies_true, reduceCtorEq, ne_eq, Nat.reduceBNe, Nat.reduceBEq, IntKind.signed, Nat.reduceEqDiff, Nat.reduceLeDiff, Nat.reduceLT, eq_self, Int.reduceEq, Int.reduceLT, Int.reduceLE, Int.reduceAdd, Int.reduceSub, VC.regC_nil, VC.regC_cons, VC.regCK_eq, VC.callQ, VC.tailQ, VC.goCall, VC.chStep]
      (repeat rw [vc_seq]); refine vc_plain _ fun Q hQ => ?_; simp -dsimp only [Fa.F80, rdB_of z4, z4, VC.Now, VC.vc_skip, VC.vc_ret, VC.vc_exit, VC.vc_block, VC.vc_cond, VC.vc_region, VC.lib, VC.regQ, VC.loopK, VC.reg, VC.opP, VC.pv, VC.thenF, VC.blkF, VC.retF, VC.resV, VC.oneV, VC.evo, VC.bin, VC.binI, VC.cmpI, VC.arithI, VC.ldv, VC.slv, VC.pickP, VC.holds, VC.chainOf, VC.look, VC.junk, VC.put, VC.eff, VC.callee, VC.pureB, VC.rdK, VC.rdKs, VC.okKs, VC.eqKs, VC.fillL, VC.putL, VC.stW, VC.stOK, VC.mixF, VC.setAll, Nat.reduceAdd, Nat.reduceSub, Nat.reduceMul, if_true, if_false, ↓reduceIte, forall_const, implies_true, reduceCtorEq, ne_eq, Nat.reduceBNe, Nat.reduceBEq, IntKind.signed, Nat.reduceEqDiff, Nat.reduceLeDiff, Nat.reduceLT, eq_self, Int.reduceEq, Int.reduceLT, Int.reduceLE, Int.reduceAdd, Int.reduceSub, VC.regC_nil, VC.regC_cons, VC.regCK_eq, VC.callQ, VC.tailQ, VC.goCall, VC.chStep]
      subst hQ
      simp -dsimp only [Fa.F80, rdB_of z4, z4, VC.Now, VC.vc_skip, VC.vc_ret, VC.vc_exit, VC.vc_block, VC.vc_cond, VC.vc_region, VC.lib, VC.regQ, VC.loopK, VC.reg, VC.opP, VC.pv, VC.thenF, VC.blkF, VC.retF, VC.resV, VC.oneV, VC.evo, VC.bin, VC.binI, VC.cmpI, VC.arithI, VC.ldv, VC.slv, VC.pickP, VC.holds, VC.chainOf, VC.look, VC.junk, VC.put, VC.eff, VC.callee, VC.pureB, VC.rdK, VC.rdKs, VC.okKs, VC.eqKs, VC.fillL, VC.putL, VC.stW, VC.stOK, VC.mixF, VC.setAll, Nat.reduceAdd, Nat.reduceSub, Nat.reduceMul, if_true, if_false, ↓reduceIte, forall_const, implies_true, reduceCtorEq, ne_eq, Nat.reduceBNe, Nat.reduceBEq, IntKind.signed, Nat.reduceEqDiff, Nat.reduceLeDiff, Nat.reduceLT, eq_self, Int.reduceEq, Int.reduceLT, Int.reduceLE, Int.reduceAdd, Int.reduceSub, VC.regC_nil, VC.regC_cons, VC.regCK_eq, VC.callQ, VC.tailQ, VC.goCall, VC.chStep]
      have x2a := x2
      have enew : newOp c t = ⟨c.who, c.wr, 0, t, -1, sto0, false, 0, 0⟩ := by unfold newOp; rw [if_neg (by rw [hwr]; decide)]
      generalize w4 = w5 at st5 x2a
      have h5 := st5.hp
      have b1 := (h5.get 2 rfl : Box w5 a.mb (worldC n a s)).at (i := 1) rfl
      have hmb := (h5.get 2 rfl : Box w5 a.mb (worldC n a s)).1
      have hown : OwnK w5 0 137 1 s.k a.vo (ptrs a s.k) := h5.get 4 rfl
      obtain ⟨Ao, co, eo, _⟩ := id hown
      rw [eo] at b1
      have hkb := hok.k
      (repeat rw [vc_seq]); refine vc_plain _ fun Q hQ => ?_; simp -dsimp only [Fa.F80, rdSA_of b1, rdSN_of b1, rdSC_of b1, b1, hmb, VC.Now, VC.vc_skip, VC.vc_ret, VC.vc_exit, VC.vc_block, VC.vc_cond, VC.vc_region, VC.lib, VC.regQ, VC.loopK, VC.reg, VC.opP, VC.pv, VC.thenF, VC.blkF, VC.retF, VC.resV, VC.oneV, VC.evo, VC.bin, VC.binI, VC.cmpI, VC.arithI, VC.ldv, VC.slv, VC.pickP, VC.holds, VC.chainOf, VC.look, VC.junk, VC.put, VC.eff, VC.callee, VC.pureB, VC.rdK, VC.rdKs, VC.okKs, VC.eqKs, VC.fillL, VC.putL, VC.stW, VC.stOK, VC.mixF, VC.setAll, Nat.reduceAdd, Nat.reduceSub, Nat.reduceMul, if_true, if_false, ↓reduceIte, forall_const, implies_true, reduceCtorEq, ne_eq, Nat.reduceBNe, Nat.reduceBEq, IntKind.signed, Nat.reduceEqDiff, Nat.reduceLeDiff, Nat.reduceLT, eq_self, Int.reduceEq, Int.reduceLT, Int.reduceLE, Int.reduceAdd, Int.reduceSub, VC.regC_nil, VC.regC_cons, VC.regCK_eq, VC.callQ, VC.tailQ, VC.goCall, VC.chStep]
      refine OPW_appK (v := a.vo) rfl Fa.apI136 (by rw [eo]; rfl) rfl rfl (by simp [Value.oneCell']) hown (Nat.zero_le _) (by omega) (by decide) fun v6 w6 ho6 hg6 hst6 => ?_
      obtain ⟨⟨r1, r2⟩, st6⟩ := h5.growField 2 4 rfl rfl (by decide) ho6 hg6 hst6 1 (by show 1 < 6; omega)
      obtain ⟨A6, c6, rfl, _⟩ := id ho6
      rw [VC.Now, VC.seqK_eq]
      have hmb6 : a.mb < w6.heap.size := by simpa using (st6.hp.get 2 rfl : Box _ a.mb _).1
      simp -dsimp only [Fa.F80, rdSA_of b1, rdSN_of b1, rdSC_of b1, b1, hmb6, VC.Now, VC.vc_skip, VC.vc_ret, VC.vc_exit, VC.vc_block, VC.vc_cond, VC.vc_region, VC.lib, VC.regQ, VC.loopK, VC.reg, VC.opP, VC.pv, VC.thenF, VC.blkF, VC.retF, VC.resV, VC.oneV, VC.evo, VC.bin, VC.binI, VC.cmpI, VC.arithI, VC.ldv, VC.slv, VC.pickP, VC.holds, VC.chainOf, VC.look, VC.junk, VC.put, VC.eff, VC.callee, VC.pureB, VC.rdK, VC.rdKs, VC.okKs, VC.eqKs, VC.fillL, VC.putL, VC.stW, VC.stOK, VC.mixF, VC.setAll, Nat.reduceAdd, Nat.reduceSub, Nat.reduceMul, if_true, if_false, ↓reduceIte, forall_const, implies_true, reduceCtorEq, ne_eq, Nat.reduceBNe, Nat.reduceBEq, IntKind.signed, Nat.reduceEqDiff, Nat.reduceLeDiff, Nat.reduceLT, eq_self, Int.reduceEq, Int.reduceLT, Int.reduceLE, Int.reduceAdd, Int.reduceSub, VC.regC_nil, VC.regC_cons, VC.regCK_eq, VC.callQ, VC.tailQ, VC.goCall, VC.chStep]
      refine ⟨⟨r1, r2⟩, ?_⟩
      have st7 := st5.trans st6
      have hBz := (st6.below h5)
      have x3 := x2a.agree st6.agree (nx _ _)
      clear r1 r2 ho6 hg6 hst6 st6 hown eo b1
      generalize w6.setCell ⟨a.mb, 1, none⟩ (.slice A6 (s.k + 1) c6) = w7 at st7 x3 hBz ⊢
      clear hmb6
      have b7 : Box w7 a.mb _ := st7.hp.get 2 rfl
      have hmb7 := b7.1
      have hsb7 := x3.1
      have z7 := x3.at (i := 1) rfl
      rw [hj] at z7
      have hcc : ((worldC n a s).set 1 (.slice A6 (s.k + 1) c6))[2 + j]? = some (.pointer (nowP a (s.now j))) := by
        rw [List.getElem?_set_ne (by omega)]; exact now_at hj4
      have k7 : (w7.cell? ⟨a.mb, 2 + j, none⟩).isSome = true := by rw [b7.at hcc]; rfl
      have f7 := b7.soft (i := 2 + j) (by show 2 + j < 6; omega)
      subst hQ
      simp -dsimp only [Fa.F80, VC.Now, VC.vc_skip, VC.vc_ret, VC.vc_exit, VC.vc_block, VC.vc_cond, VC.vc_region, VC.lib, VC.regQ, VC.loopK, VC.reg, VC.opP, VC.pv, VC.thenF, VC.blkF, VC.retF, VC.resV, VC.oneV, VC.evo, VC.bin, VC.binI, VC.cmpI, VC.arithI, VC.ldv, VC.slv, VC.pickP, VC.holds, VC.chainOf, VC.look, VC.junk, VC.put, VC.eff, VC.callee, VC.pureB, VC.rdK, VC.rdKs, VC.okKs, VC.eqKs, VC.fillL, VC.putL, VC.stW, VC.stOK, VC.mixF, VC.setAll, Nat.reduceAdd, Nat.reduceSub, Nat.reduceMul, if_true, if_false, ↓reduceIte, forall_const, implies_true, reduceCtorEq, ne_eq, Nat.reduceBNe, Nat.reduceBEq, IntKind.signed, Nat.reduceEqDiff, Nat.reduceLeDiff, Nat.reduceLT, eq_self, Int.reduceEq, Int.reduceLT, Int.reduceLE, Int.reduceAdd, Int.reduceSub, VC.regC_nil, VC.regC_cons, VC.regCK_eq, VC.callQ, VC.tailQ, VC.goCall, VC.chStep]
      (repeat rw [vc_seq]); refine vc_plain _ fun Q hQ => ?_; simp -dsimp only [Fa.F80, VC.Now, VC.vc_skip, VC.vc_ret, VC.vc_exit, VC.vc_block, VC.vc_cond, VC.vc_region, VC.lib, VC.regQ, VC.loopK, VC.reg, VC.opP, VC.pv, VC.thenF, VC.blkF, VC.retF, VC.resV, VC.oneV, VC.evo, VC.bin, VC.binI, VC.cmpI, VC.arithI, VC.ldv, VC.slv, VC.pickP, VC.holds, VC.chainOf, VC.look, VC.junk, VC.put, VC.eff, VC.callee, VC.pureB, VC.rdK, VC.rdKs, VC.okKs, VC.eqKs, VC.fillL, VC.putL, VC.stW, VC.stOK, VC.mixF, VC.setAll, Nat.reduceAdd, Nat.reduceSub, Nat.reduceMul, if_true, if_false, ↓reduceIte, forall_const, implies_true, reduceCtorEq, ne_eq, Nat.reduceBNe, Nat.reduceBEq, IntKind.signed, Nat.reduceEqDiff, Nat.reduceLeDiff, Nat.reduceLT, eq_self, Int.reduceEq, Int.reduceLT, Int.reduceLE, Int.reduceAdd, Int.reduceSub, VC.regC_nil, VC.regC_cons, VC.regCK_eq, VC.callQ, VC.tailQ, VC.goCall, VC.chStep]
      refine WP_held 99 (fun j => j = a.mb) (.take 0 (.take 1 (.take 2 (.take 3 (.take 4 (.take 5 (.take 6 (.one 7 .done)))))))) Fa.mix (by kernel_rfl) rfl ?_
      simp -dsimp only [VC.heldF_done, VC.heldF_last, VC.planF_done, VC.planF_take, VC.planF_one, VC.planF_two, VC.planK_eq, VC.heldF_take, VC.heldF_one, VC.heldF_two, VC.heldF_twoL, VC.heldK_eq, VC.okRd, Fa.F80, rdI_of z7, z7, hmb7, hsb7, k7, f7, Int.toNat_natCast, VC.Now, VC.vc, VC.lib, VC.regQ, VC.loopK, VC.reg, VC.opP, VC.pv, VC.thenF, VC.blkF, VC.retF, VC.resV, VC.oneV, VC.evo, VC.bin, VC.binI, VC.cmpI, VC.arithI, VC.ldv, VC.slv, VC.pickP, VC.holds, VC.chainOf, VC.look, VC.junk, VC.put, VC.eff, VC.callee, VC.pureB, VC.rdK, VC.rdKs, VC.okKs, VC.eqKs, VC.fillL, VC.putL, VC.stW, VC.stOK, VC.mixF, VC.setAll, Nat.reduceAdd, Nat.reduceSub, Nat.reduceMul, if_true, if_false, ↓reduceIte, forall_const, implies_true, reduceCtorEq, ne_eq, Nat.reduceBNe, Nat.reduceBEq, IntKind.signed, Nat.reduceEqDiff, Nat.reduceLeDiff, Nat.reduceLT, eq_self, Int.reduceEq, Int.reduceLT, Int.reduceLE, Int.reduceAdd, Int.reduceSub, VC.regC_nil, VC.regC_cons, VC.regCK_eq, VC.callQ, VC.tailQ, VC.goCall, VC.chStep]
      refine ⟨fun e => nx [] [] (foot_at (i := 2) rfl (by rw [e]; rfl)), ⟨by omega, by omega⟩, (Agree.of_below (below_drewN (Below.refl _ w7) 1)).trans (Agree.setCell (w7.drewN 1) (ptrV (ab + 1)) (a := ⟨a.mb, 2 + j, none⟩) rfl), ?_⟩
      have st8 := (st7.drewN 1).trans ((st7.drewN 1).hp.setBox 2 rfl (2 + j) (ptrV (ab + 1)))
      have hBf := (st8.below h1)
      have st9 := begin_end (c := c) (t := t) (j := j) (x := ab + 1) (y := ab) (v := .slice A6 (s.k + 1) c6) hok hj4 (by rw [enew]; exact st8)
      subst hQ
      simp -dsimp only [Fa.F80, VC.Now, VC.vc, VC.lib, VC.regQ, VC.loopK, VC.reg, VC.opP, VC.pv, VC.thenF, VC.blkF, VC.retF, VC.resV, VC.oneV, VC.evo, VC.bin, VC.binI, VC.cmpI, VC.arithI, VC.ldv, VC.slv, VC.pickP, VC.holds, VC.chainOf, VC.look, VC.junk, VC.put, VC.eff, VC.callee, VC.pureB, VC.rdK, VC.rdKs, VC.okKs, VC.eqKs, VC.fillL, VC.putL, VC.stW, VC.stOK, VC.mixF, VC.setAll, Nat.reduceAdd, Nat.reduceSub, Nat.reduceMul, if_true, if_false, ↓reduceIte, forall_const, implies_true, reduceCtorEq, ne_eq, Nat.reduceBNe, Nat.reduceBEq, IntKind.signed, Nat.reduceEqDiff, Nat.reduceLeDiff, Nat.reduceLT, eq_self, Int.reduceEq, Int.reduceLT, Int.reduceLE, Int.reduceAdd, Int.reduceSub, VC.regC_nil, VC.regC_cons, VC.regCK_eq, VC.callQ, VC.tailQ, VC.goCall, VC.chStep]
      refine ⟨by rw [hr], ⟨a.mb, a.gc, .slice A6 (s.k + 1) c6, upd a.pb s.k (ab + 1), upd a.ab s.k ab⟩, rfl, rfl, ?_⟩
      rw [hr]
      exact (h.below_st hB1).trans st9
end
end Go.Proofs.Ytnggjekppdlaoaa
