/- Range over a function: the iterator's contract, the statement, functions that hold one. Over any program. -/
import Derived.Test.YtelfmhiaafkimaaOwn
import Derived.RangeFuncLeaves
import Derived.RangeFuncSeq
namespace Go.VC
open Go Go.RowKit
set_option linter.unusedVariables false
set_option linter.unusedSimpArgs false

/-- w' is w but for the blocks of X, and new ones. -/
structure Agree (X : Nat → Prop) (w w' : World) : Prop where
  os : w'.os = w.os
  tape : w'.tape = w.tape
  output : w'.output = w.output
  size : w.heap.size ≤ w'.heap.size
  block : ∀ k, k < w.heap.size → ¬ X k → w'.heap[k]? = w.heap[k]?

section
variable {X Y : Nat → Prop} {w w' w'' : World}
theorem Agree.refl (X : Nat → Prop) (w : World) : Agree X w w := ⟨rfl, rfl, rfl, Nat.le_refl _, fun _ _ _ => rfl⟩
theorem Agree.trans (h : Agree X w w') (k : Agree X w' w'') : Agree X w w'' :=
  ⟨k.os.trans h.os, k.tape.trans h.tape, k.output.trans h.output, Nat.le_trans h.size k.size, fun j hj hx => (k.block j (Nat.lt_of_lt_of_le hj h.size) hx).trans (h.block j hj hx)⟩
theorem Agree.mono (h : Agree X w w') (hXY : ∀ k, k < w.heap.size → X k → Y k) : Agree Y w w' := ⟨h.os, h.tape, h.output, h.size, fun k hk hy => h.block k hk fun hx => hy (hXY k hk hx)⟩
theorem Agree.of_below (h : Below w.heap.size w w') : Agree X w w' := ⟨h.os, h.tape, h.output, h.size, fun k hk _ => h.block k hk⟩
theorem Agree.to_below (h : Agree X w w') {B : Nat} {w0 : World} (hB : Below B w0 w) (hs : B ≤ w.heap.size) (hX : ∀ k, X k → B ≤ k) : Below B w0 w' :=
  ⟨h.os.trans hB.os, h.tape.trans hB.tape, h.output.trans hB.output, Nat.le_trans hB.size h.size, fun k hk => (h.block k (by omega) fun hx => by have := hX k hx; omega).trans (hB.block k hk)⟩
theorem Agree.cell (h : Agree X w w') {b o : Nat} (hb : b < w.heap.size) (hx : ¬ X b) : w'.cell? ⟨b, o, none⟩ = w.cell? ⟨b, o, none⟩ := World.cell?_of_block (w := w) (a := ⟨b, o, none⟩) (h.block b hb hx)
theorem Agree.frozen (h : Agree X w w') {b o : Nat} (hb : b < w.heap.size) (hx : ¬ X b) : w'.frozen? ⟨b, o, none⟩ = w.frozen? ⟨b, o, none⟩ := World.frozen?_of_block (w := w) (a := ⟨b, o, none⟩) (h.block b hb hx)
theorem Agree.putObj (w : World) {L : Nat} (o : Obj) (hx : X L) : Agree X w (w.putObj L o) := ⟨rfl, rfl, rfl, by simp, fun k hk hx' => World.putObj_heap_other fun e => hx' (e ▸ hx)⟩
theorem Agree.setCell (w : World) {a : Addr} (v : Value) (hx : X a.block) : Agree X w (w.setCell a v) := ⟨rfl, rfl, rfl, by simp, fun k hk hx' => Below.heap_setCell w a v k fun e => hx' (e ▸ hx)⟩
theorem Agree.grown {row : Option Nat} (hg : w.grownBy w' row) (hr : ∀ k, row = some k → X k) : Agree X w w' := ⟨hg.os, hg.tape, hg.output, hg.size, fun k hk hx => hg.block k hk fun e => hx (hr k e.symm)⟩
end

theorem Agree.trans' {X Y : Nat → Prop} {w w' w'' : World} (h : Agree X w w') (k : Agree Y w' w'') (hY : ∀ j, j < w.heap.size → Y j → X j) : Agree X w w'' :=
  ⟨k.os.trans h.os, k.tape.trans h.tape, k.output.trans h.output, Nat.le_trans h.size k.size, fun j hj hx => (k.block j (Nat.lt_of_lt_of_le hj h.size) fun hy => hx (hY j hj hy)).trans (h.block j hj hx)⟩
theorem OwnV.agree {X : Nat → Prop} {w w' : World} {B : Nat} {e : TypeId} {v : Value} {xs : List Value} (h : OwnV w B e v xs) (hA : Agree X w w') (hX : ∀ k, X k → k < B ∨ w.heap.size ≤ k) : OwnV w' B e v xs := by
  obtain ⟨A, c, hv, h1, h2⟩ := h
  refine ⟨A, c, hv, h1, h2.imp id ?_⟩
  rintro ⟨g, cap, cur, h3, h4, h5, h6⟩
  have hg := (Array.getElem?_eq_some_iff.1 h5).1
  exact ⟨g, cap, cur, h3, h4, by rw [hA.block g hg fun hx => by have := hX g hx; omega]; exact h5, h6⟩
theorem Rd.agree {X : Nat → Prop} {w w' : World} {A : Option Addr} {xs : List Value} (h : Rd w A xs) (hA : Agree X w w') (hX : ∀ a, A = some a → ¬ X a.block) : Rd w' A xs := by
  intro h0
  obtain ⟨b, o, rfl, hlt, hc⟩ := h h0
  exact ⟨b, o, rfl, Nat.lt_of_lt_of_le hlt hA.size, fun j hj => (hA.cell hlt (hX _ rfl)).trans (hc j hj)⟩

theorem Agree.drewN {X : Nat → Prop} {w w' : World} (h : Agree X w w') (n : Nat) : Agree X w (w'.drewN n) := ⟨h.os, h.tape, h.output, h.size, h.block⟩
theorem OwnV.agreeAt {X : Nat → Prop} {w w' : World} {B g n c : Nat} {e : TypeId} {xs : List Value} (h : OwnV w B e (.slice (some ⟨g, 0, none⟩) n c) xs) (hA : Agree X w w') (hg : ¬ X g) : OwnV w' B e (.slice (some ⟨g, 0, none⟩) n c) xs := by
  obtain ⟨A, c', hv, h1, h2⟩ := h
  simp only [Value.slice.injEq] at hv
  obtain ⟨rfl, rfl, rfl⟩ := hv
  refine ⟨_, _, rfl, h1, h2.imp id ?_⟩
  rintro ⟨g', cap, cur, h3, h4, h5, h6⟩
  simp only [Value.slice.injEq, Option.some.injEq, Addr.mk.injEq] at h3
  obtain ⟨⟨rfl, _, _⟩, _, rfl⟩ := h3
  exact ⟨_, _, cur, rfl, h4, by rw [hA.block _ (Array.getElem?_eq_some_iff.1 h5).1 hg]; exact h5, h6⟩

/-- 'append(s, u)' over a slice that lies behind B. -/
theorem OPW_appG {P : Program} {w : World} {B : Nat} {e : TypeId} {v : Value} {xs : List Value} {o : Oper} {f : Array Value} {K' : Value → World → Prop} {s x : Operand} {t : TypeId} {bytes : Nat} {zc : List Value} {us : List Value} {e0 : TypeId}
    (ho : o.op = .call { callee := .builtin .append, args := #[s, x], argTypes := #[t, t] }) (hi : apI P t = some (e, 1, bytes, zc))
    (hs : evo f s = v) (hx : evo f x = .slice (some ⟨w.heap.size, 0, none⟩) 1 1) (hl : us.length = 1) (h1 : ∀ u ∈ us, u.oneCell' = true)
    (hown : OwnV w B e v xs) (hbase : B ≤ w.heap.size) (hn : xs.length ≤ 1000000) (hb : bytes ≤ 64)
    (hk : ∀ v' w', OwnV w' B e v' (xs ++ us) → Agree (fun k => B ≤ k) w w' → Now (K' v' w')) : OPW P o f (w.alloc (.cells us.toArray e0)) K' := by
  obtain ⟨A, c, rfl, hown⟩ := hown
  refine OPW_append1 ho hi hs hx hl h1 hown ?_ (by omega) hbase ?_
  · exact Nat.le_trans (Nat.mul_le_mul (show xs.length + 1 ≤ 1000001 by omega) hb) (by omega)
  · intro A' c' w' ho' hg hloc
    exact hk _ _ (OwnV.of ho') (Agree.grown hg fun k hk => (hown.lt k hk).1)

/-- AN ITERATOR's CONTRACT: n rounds, of values as E says; in place it changes the blocks of Z alone (s: the heap's size when it is called); a round must keep those and Kp's. -/
def IterC (P : Program) (gf : FuncId) (caps : List Value) (n : Nat) (E : Nat → Array Value → World → Prop) (Z : Nat → Nat → Prop) (Kp : Nat → Prop) (w : World) : Prop :=
  ∀ (l : Nat) (J Jx : Nat → World → Prop) (W : World), Below w.heap.size w W →
    (∀ i A B, J i A → Agree (Z W.heap.size) A B → J i B) → (∀ i A B, Jx i A → Agree (Z W.heap.size) A B → Jx i B) → J 0 W →
    (∀ i vals W1, i < n → J i W1 → E i vals W1 → (∀ k, Z W.heap.size k → k < W1.heap.size) → YieldAt Fence.wide 0 P l vals W1 fun e W2 =>
      (e = .returned (.bool true) ∧ J (i + 1) W2 ∧ Agree (fun k => ¬ (Kp k ∨ Z W.heap.size k)) W1 W2) ∨ (e = .returned (.bool false) ∧ Jx (i + 1) W2)) →
    Calls P gf (.func (.yield l) #[] #[] :: caps).toArray W fun e W' => (∃ v, e = .returned v) ∧ (J n W' ∨ ∃ i, Jx i W')

theorem round_in (X : Ctx) {P : Program} {l : Nat} {f : FuncId} {tmps : Array Value} {assign body : Code} {w : World} {R : Ending → World → Prop} (h : RoundIn Fence.wide 0 P l f tmps assign body w R) : RoundIn X.F 0 P l f tmps assign body w R := h

/-- 'yield(..)'. -/
theorem OPW_yield {P : Program} {w : World} {o : Oper} {f : Array Value} {K' : Value → World → Prop} {c : Call} {x : Operand} {l : Nat} {vals : Array Value} (ho : o.op = .call c) (hc : c.callee = .value x) (hx : evo f x = .func (.yield l) #[] #[]) (hv : c.args.map (evo f) = vals)
    (hy : YieldAt Fence.wide 0 P l vals w fun e w' => ∃ v, e = .returned v ∧ Now (K' v w')) : OPW P o f w K' := by
  intro X K Q hK
  obtain ⟨fn, tmps, assign, body, hrun, hround⟩ := hy
  refine ⟨fun _ _ => trivial, ?_⟩
  rw [Oper.semAt_eq _ _ _ (by rw [ho]; intro c h; cases h)]
  have hr : (execOp (Act.mk f X.ds).eval o).run P w = .ok (.round l fn tmps assign body) w := by
    rw [← evo_eq]
    have e : (#[] : Array Value) ++ c.args.map (evo f) = vals := by rw [hv]; simp
    simp only [execOp, ho, resolve, hc, hx, Deferred.ofValue, invoke, Sem.run_bind, Sem.run_pure, Result.andThen_ok, e, hrun]
  rw [hr]
  refine ⟨fun hd => by simp [Ctx.F, Fence.wide] at hd, (round_in X hround).mono fun e w'' he => ?_⟩
  obtain ⟨v, rfl, hk⟩ := he
  exact hK _ _ hk

/-! ### Code that lays marks -/
abbrev QM := Exit → List Deferred → Array Value → World → Prop
def WPM (P : Program) (n : Nat) (c : Code) (Q : QM) (ds : List Deferred) (f : Array Value) (w : World) : Tied (c, Q) :=
  c.wpIn Fence.wide 0 P (fun e a w => a.tmps.size = n ∧ Q e a.defers a.tmps w) ⟨f, ds⟩ w
def fixM (Q : QM) (ds : List Deferred) : Exit → Array Value → World → Tied Q := fun e f w => Q e ds f w
def thenM (next : List Deferred → Array Value → World → Prop) (Q : QM) : Exit → List Deferred → Array Value → World → Tied (next, Q)
  | .normal, ds, f, w => next ds f w
  | e, ds, f, w => Q e ds f w
def blkM (id : Nat) (Q : QM) : Exit → List Deferred → Array Value → World → Tied Q
  | .exit i, ds, f, w => if i = id then Q .normal ds f w else Q (.exit i) ds f w
  | e, ds, f, w => Q e ds f w
def vcM (P : Program) (n : Nat) : (c : Code) → (Q : QM) → List Deferred → Array Value → World → Tied (c, Q)
  | .seq a b, Q, ds, f, w => vcM P n a (thenM (vcM P n b Q) Q) ds f w
  | .cond c t e, Q, ds, f, w => match evo f c with
    | .bool b => @ite Prop (b = true) _ (vcM P n t Q ds f w) (vcM P n e Q ds f w)
    | _ => False
  | .block id body, Q, ds, f, w => vcM P n body (blkM id Q) ds f w
  | .loop body, Q, ds, f, w => WPM P n (.loop body) Q ds f w
  | .rangeFunc g ps a b, Q, ds, f, w => WPM P n (.rangeFunc g ps a b) Q ds f w
  | c, Q, ds, f, w => vc ⟨ds, none⟩ P n c (fixM Q ds) f w

theorem WPM_of_WP {P : Program} {n : Nat} {c : Code} {Q : QM} {ds : List Deferred} {f : Array Value} {w : World} (h : WP ⟨ds, none⟩ P n c (fixM Q ds) f w) : WPM P n c Q ds f w :=
  wpIn_mono (F := Fence.wide) h fun e a w' ⟨h1, h2, h3⟩ => ⟨h2, by rw [h1]; exact h3⟩

theorem vcM_sound {P : Program} (hm : P.follows .mixedOrders = true) {n : Nat} : ∀ (c : Code) (Q : QM) (ds : List Deferred) (f : Array Value) (w : World), f.size = n → codeOk n c = true → vcM P n c Q ds f w → WPM P n c Q ds f w
  | .seq a b, Q, ds, f, w, hs, hok, h => by
    simp only [codeOk, Bool.and_eq_true] at hok
    refine wpIn_seq (wpIn_mono (vcM_sound hm a _ ds f w hs hok.1 h) ?_)
    rintro e ⟨f', ds'⟩ w' ⟨hs', hq⟩
    cases e with
    | normal => exact vcM_sound hm b Q ds' f' w' hs' hok.2 hq
    | _ => exact ⟨hs', hq⟩
  | .cond c t e, Q, ds, f, w, hs, hok, h => by
    simp only [codeOk, Bool.and_eq_true] at hok
    unfold vcM at h
    split at h
    · rename_i b hb
      rw [evo_eq f ds] at hb
      refine wpIn_cond_split hb (fun ht => ?_) (fun ht => ?_)
      · rw [if_pos ht] at h; exact vcM_sound hm t Q ds f w hs hok.1 h
      · rw [if_neg (by rw [ht]; simp)] at h; exact vcM_sound hm e Q ds f w hs hok.2 h
    · exact h.elim
  | .block id body, Q, ds, f, w, hs, hok, h => by
    refine wpIn_block (wpIn_mono (vcM_sound hm body _ ds f w hs (by simpa [codeOk] using hok) h) ?_)
    rintro e a w' ⟨hs', hq⟩
    cases e with
    | exit i =>
      simp only [blkM] at hq
      simp only [Exit.inBlock]
      split
      · rename_i hi; rw [if_pos hi] at hq; exact ⟨hs', hq⟩
      · rename_i hi; rw [if_neg hi] at hq; exact ⟨hs', hq⟩
    | _ => exact ⟨hs', hq⟩
  | .loop _, Q, ds, f, w, _, _, h => h
  | .rangeFunc .., Q, ds, f, w, _, _, h => h
  | .skip, Q, ds, f, w, hs, hok, h => WPM_of_WP (vc_sound ⟨ds, none⟩ hm _ _ f w hs hok h)
  | .exit id, Q, ds, f, w, hs, hok, h => WPM_of_WP (vc_sound ⟨ds, none⟩ hm _ _ f w hs hok h)
  | .ret, Q, ds, f, w, hs, hok, h => WPM_of_WP (vc_sound ⟨ds, none⟩ hm _ _ f w hs hok h)
  | .region id ops d, Q, ds, f, w, hs, hok, h => WPM_of_WP (vc_sound ⟨ds, none⟩ hm _ _ f w hs hok h)
  | .scope _, Q, ds, f, w, hs, hok, h => WPM_of_WP (vc_sound ⟨ds, none⟩ hm _ _ f w hs hok h)
  | .label _, Q, ds, f, w, hs, hok, h => WPM_of_WP (vc_sound ⟨ds, none⟩ hm _ _ f w hs hok h)
  | .goto _, Q, ds, f, w, hs, hok, h => WPM_of_WP (vc_sound ⟨ds, none⟩ hm _ _ f w hs hok h)
  | .refuse _, Q, ds, f, w, hs, hok, h => WPM_of_WP (vc_sound ⟨ds, none⟩ hm _ _ f w hs hok h)

def markOf (D : Nat) : Deferred := { target := .collected D, args := #[] }
/-- A function's end, its marks taken one by one. -/
def leaveM (P : Program) (rs : List ResultVar) (R : Ending → World → Prop) : List Deferred → Array Value → World → Prop
  | [], f, w => (resV P w f rs).1 ∧ R (.returned (oneV (resV P w f rs).2)) w
  | d :: ds, f, w => ∃ D, d = markOf D ∧ w.heap[D]? = some (.deferred (some [])) ∧ leaveM P rs R ds f (w.putObj D (.deferred none))
/-- The marks that stand. -/
def Marks (w : World) (B : Nat) : List Deferred → Prop
  | [] => True
  | d :: ds => (∃ D, d = markOf D ∧ B ≤ D ∧ w.heap[D]? = some (.deferred (some [])) ∧ markOf D ∉ ds) ∧ Marks w B ds
theorem Marks.keep {w w' : World} {B : Nat} : ∀ {ds : List Deferred}, Marks w B ds → (∀ D, markOf D ∈ ds → w.heap[D]? = some (.deferred (some [])) → w'.heap[D]? = some (.deferred (some []))) → Marks w' B ds
  | [], _, _ => trivial
  | d :: ds, ⟨⟨D, hd, hB, hD, hn⟩, hr⟩, h => ⟨⟨D, hd, hB, h D (by rw [hd]; simp) hD, hn⟩, hr.keep fun D' hm hD' => h D' (by simp [hm]) hD'⟩
theorem markOf_inj {D D' : Nat} (h : markOf D = markOf D') : D = D' := by simpa [markOf] using h
theorem Marks.leave {P : Program} {rs : List ResultVar} {R : Ending → World → Prop} {f : Array Value} {B : Nat} : ∀ {ds : List Deferred} {w : World}, Marks w B ds →
    (∀ w', Agree (fun k => markOf k ∈ ds) w w' → (resV P w' f rs).1 ∧ R (.returned (oneV (resV P w' f rs).2)) w') → leaveM P rs R ds f w
  | [], w, _, h => h w (Agree.refl _ w)
  | d :: ds, w, ⟨⟨D, hd, hB, hD, hn⟩, hr⟩, h => by
    refine ⟨D, hd, hD, ?_⟩
    have hA : Agree (fun k => markOf k ∈ d :: ds) w (w.putObj D (.deferred none)) := Agree.putObj w _ (by rw [hd]; simp)
    refine Marks.leave (hr.keep fun D' hm hD' => ?_) fun w' hw' => h w' (hA.trans (hw'.mono fun k _ hk => by simp [hk]))
    rw [World.putObj_heap_other (by rintro rfl; exact hn hm)]
    exact hD'
theorem Marks.bound {w : World} {B : Nat} : ∀ {ds : List Deferred}, Marks w B ds → ∀ D, markOf D ∈ ds → B ≤ D ∧ D < w.heap.size
  | [], _, D, h => by cases h
  | d :: ds, ⟨⟨D', hd, hB, hD, hn⟩, hr⟩, D, h => by
    rcases List.mem_cons.1 h with h | h
    · rw [hd] at h
      have := markOf_inj h
      subst this
      exact ⟨hB, (Array.getElem?_eq_some_iff.1 hD).1⟩
    · exact hr.bound D h

def retM (P : Program) (rs : List ResultVar) (R : Ending → World → Prop) : Exit → List Deferred → Array Value → World → Tied R
  | .normal, ds, f, w | .ret, ds, f, w => leaveM P rs R ds f w
  | _, _, _, _ => False

theorem leaves_of {P : Program} {fn : Func} {R : Ending → World → Prop} : ∀ (ds : List Deferred) (f : Array Value) (w : World), leaveM P fn.results.toList R ds f w → LeavesInM Fence.wide 0 P fn f R ds .returning w
  | [], f, w, h => ⟨_, run_results fn f h.1, h.2⟩
  | d :: ds, f, w, ⟨D, hd, hD, h⟩ => ⟨by simp, .inl ⟨D, _, by rw [hd]; rfl, run_takeDeferred hD, leaves_of ds f _ h⟩⟩

/-- A CALL OF A FUNCTION THAT HOLDS A RANGE OVER A FUNCTION. -/
theorem calls_vcM {P : Program} {w : World} (hm : P.follows .mixedOrders = true) {g : FuncId} {fn : Func} {c : Code} {n : Nat} {rs : List ResultVar} {args : Array Value} {R : Ending → World → Prop} (hf : P.funcs[g]? = some fn) (hb : fn.body = some c) (hn : fn.ntmps = n)
    (hrs : fn.results.toList = rs) (hok : codeOk n c = true) (hsz : args.size ≤ n) (h : vcM P n c (retM P rs R) [] (args ++ Array.replicate (n - args.size) undef) w) : Calls P g args w R := by
  subst hrs
  refine (callsIn_wide (n := 0)).1 (callsIn_of_wp_marks hf hb trivial ?_)
  rw [hn]
  refine wpIn_mono (vcM_sound hm c _ [] _ w (by simp; omega) hok h) ?_
  rintro e a w' ⟨_, hq⟩
  cases e with
  | normal => exact leaves_of a.defers a.tmps w' hq
  | ret => exact leaves_of a.defers a.tmps w' hq
  | _ => exact hq.elim

/-! ### The statement -/
/-- How a round's body may end. -/
def rndF (I : Nat → World → Prop) (Ix : Code → Nat → World → Prop) (Kp : Nat → Prop) (i : Nat) (W3 : World) : Exit → Array Value → World → Tied (I, Ix)
  | .normal, _, W => Agree (fun k => ¬ Kp k) W3 W ∧ I (i + 1) W
  | .ret, _, W => Agree (fun k => ¬ Kp k) W3 W ∧ Ix .ret (i + 1) W
  | .exit id, _, W => Agree (fun k => ¬ Kp k) W3 W ∧ Ix (.exit id) (i + 1) W
  | _, _, _ => False
/-- Behind the assignment to the loop's left sides. -/
def asgF (l : Nat) (P : Program) (n : Nat) (body : Code) (I : Nat → World → Prop) (Ix : Code → Nat → World → Prop) (Kp : Nat → Prop) (i L : Nat) (W1 : World) : Exit → Array Value → World → Tied (body, I, Ix)
  | .normal, f, W2 => Agree (fun _ => False) W1 W2 ∧ ∀ W3, Agree (fun k => k = L) W2 W3 → vc ⟨[], some l⟩ P n body (rndF I Ix Kp i W3) f W3
  | _, _, _ => False

theorem fold_setAll : ∀ (ps : List Nat) (vs : List Value) (f : Array Value), ((ps.zip vs).foldl (fun t (x : Nat × Value) => t.setIfInBounds x.1 x.2) f) = setAll f ps vs
  | [], _, f => by simp [setAll]
  | p :: ps, [], f => by simp [setAll]
  | p :: ps, v :: vs, f => by simp only [List.zip_cons_cons, List.foldl_cons, setAll]; exact fold_setAll ps vs _

/-- 'for .. := range g { .. }', not within another such loop's round. -/
theorem WPM_rangeL {P : Program} {w : World} (hm : P.follows .mixedOrders = true) {n : Nat} {g : Operand} {ps : Array Tmp} {assign body : Code} {Q : QM} {ds : List Deferred} {f : Array Value}
    {gf : FuncId} {caps : List Value} {cnt : Nat} {E : Nat → Array Value → World → Prop} {Z : Nat → Nat → Prop} {Kp : Nat → Prop} {w0 : World}
    (hit : IterC P gf caps cnt E Z Kp w0) (hB0 : Below w0.heap.size w0 w) (hs : f.size = n) (hg : evo f g = .func (.func gf) #[] caps.toArray) (hgf : callB P gf = true)
    (hps : ∀ i vals W, E i vals W → vals.size = ps.size) (hoa : codeOk n assign = true) (hob : codeOk n body = true)
    (hZ : ∀ k, Z (w.heap.size + 2) k → k ≠ w.heap.size ∧ k ≠ w.heap.size + 1) (hKp : ¬ Kp (w.heap.size + 1))
    (I : Nat → World → Prop) (Ix : Code → Nat → World → Prop)
    (hI : ∀ i A B, I i A → Agree (fun k => k = w.heap.size + 1 ∨ Z (w.heap.size + 2) k) A B → I i B)
    (hIx : ∀ c i A B, Ix c i A → Agree (fun k => k = w.heap.size + 1 ∨ Z (w.heap.size + 2) k) A B → Ix c i B) (h0 : I 0 w)
    (hround : ∀ l i vals W1, i < cnt → I i W1 → E i vals W1 → (∀ k, Z (w.heap.size + 2) k → k < W1.heap.size) → w.heap.size + 2 ≤ W1.heap.size → (∃ r, W1.heap[w.heap.size + 1]? = some (.loop r)) →
      Now (vc ⟨[], some l⟩ P n assign (asgF l P n body I Ix (fun k => Kp k ∨ Z (w.heap.size + 2) k ∨ k = w.heap.size ∨ k = w.heap.size + 1) i (w.heap.size + 1) W1) (setAll f ps.toList vals.toList) W1))
    (hdone : ∀ W, I cnt W → W.heap[w.heap.size]? = some (.deferred (some [])) → Now (Q .normal (markOf w.heap.size :: ds) f W))
    (hstop : ∀ c i W, Ix c i W → W.heap[w.heap.size]? = some (.deferred (some [])) → WPM P n c Q (markOf w.heap.size :: ds) f W) :
    WPM P n (.rangeFunc g ps assign body) Q ds f w := by
  unfold WPM
  refine wpIn_rangeFunc ?_
  intro fn hfn
  obtain ⟨rec, hrec⟩ : ∃ rec : LoopState → Option Code → Loop, rec = fun st pe => { state := st, pending := pe, fn, tmps := f, params := ps, assign, body, defers := w.heap.size } := ⟨_, rfl⟩
  obtain ⟨W1, hW1⟩ : ∃ W1, (w.alloc (.deferred (some []))).alloc (.loop (rec .ready none)) = W1 := ⟨_, rfl⟩
  have hsz1 : W1.heap.size = w.heap.size + 2 := by rw [← hW1]; simp
  have hBw : Below w.heap.size w W1 := by rw [← hW1]; exact ((Below.refl _ w).alloc (Nat.le_refl _) _).alloc (by simp) _
  have hL1 : W1.heap[w.heap.size + 1]? = some (.loop (rec .ready none)) := by
    rw [← hW1]; have := World.alloc_heap_new (w.alloc (.deferred (some []))) (.loop (rec .ready none)); rwa [World.size_alloc] at this
  have hK1 : W1.heap[w.heap.size]? = some (.deferred (some [])) := by
    rw [← hW1]; exact (Below.heap_alloc _ _ _ (by simp)).trans (World.alloc_heap_new w _)
  have hI1 : I 0 W1 := hI 0 w W1 h0 (Agree.of_below hBw)
  have hb1 : Below w0.heap.size w0 W1 := hB0.trans (hBw.mono hB0.size)
  have hlt : ∀ {W : World} {k : Nat} {o : Obj}, W.heap[k]? = some o → k < W.heap.size := fun h => (Array.getElem?_eq_some_iff.1 h).1
  have hst : ∀ {A B : World} {k : Nat} {o : Obj}, Agree (Z W1.heap.size) A B → k = w.heap.size ∨ k = w.heap.size + 1 → A.heap[k]? = some o → B.heap[k]? = some o := by
    intro A B k o hA hk ho
    rw [hA.block k (hlt ho) (fun hz => by rw [hsz1] at hz; have := hZ k hz; omega)]
    exact ho
  refine ⟨w.heap.size + 1, [{ target := .collected w.heap.size, args := #[] }], W1, { target := .fn (.func gf) caps.toArray, args := #[.func (.yield (w.heap.size + 1)) #[] #[]] }, W1, gf,
    #[.func (.yield (w.heap.size + 1)) #[] #[]] ++ caps.toArray, W1, ?_, ?_, fun _ _ => trivial, ?_, fun h => by simp [Fence.wide] at h, ?_⟩
  · rw [← hW1, hrec]; exact run_enterLoop_outer _ _ _ _ _
  · rw [evo_eq f ds] at hg
    simp only [resolve, hg]
    simp [go_sem]
  · simp only [invoke, run_callFunc hgf]
  · have hcall := hit (w.heap.size + 1)
      (fun i W => I i W ∧ W.heap[w.heap.size + 1]? = some (.loop (rec .ready none)) ∧ W.heap[w.heap.size]? = some (.deferred (some [])))
      (fun i W => ∃ c, Ix c i W ∧ W.heap[w.heap.size + 1]? = some (.loop (rec .done (some c))) ∧ W.heap[w.heap.size]? = some (.deferred (some [])))
      W1 hb1
      (fun i A B ⟨h1, h2, h3⟩ hA => ⟨hI i A B h1 (hA.mono fun k _ hz => .inr (by rw [hsz1] at hz; exact hz)), hst hA (.inr rfl) h2, hst hA (.inl rfl) h3⟩)
      (fun i A B ⟨c, h1, h2, h3⟩ hA => ⟨c, hIx c i A B h1 (hA.mono fun k _ hz => .inr (by rw [hsz1] at hz; exact hz)), hst hA (.inr rfl) h2, hst hA (.inl rfl) h3⟩)
      ⟨hI1, hL1, hK1⟩ ?_
    · have e : (Value.func (.yield (w.heap.size + 1)) #[] #[] :: caps).toArray = #[.func (.yield (w.heap.size + 1)) #[] #[]] ++ caps.toArray := by simp
      rw [e] at hcall
      refine ((callsIn_wide (n := 0 - 1)).2 hcall).mono ?_
      rintro e W2 ⟨⟨v, rfl⟩, (⟨hi, hl, hk⟩ | ⟨i, c, hi, hl, hk⟩)⟩
      · refine ⟨none, W2.putObj (w.heap.size + 1) (.loop { rec .ready none with state := .exhausted }), ?_, ?_⟩
        · have := run_endLoop (P := P) hl (by rw [hrec]; simp)
          rw [this, hrec]
        · refine ⟨hs, hdone _ (hI _ _ _ hi (Agree.putObj W2 _ (.inl rfl))) ?_⟩
          rw [World.putObj_heap_other (by omega)]; exact hk
      · refine ⟨some c, W2.putObj (w.heap.size + 1) (.loop { rec .done (some c) with state := .exhausted }), ?_, ?_⟩
        · have := run_endLoop (P := P) hl (by rw [hrec]; simp)
          rw [this, hrec]
        · exact hstop c i _ (hIx _ _ _ _ hi (Agree.putObj W2 _ (.inl rfl))) (by rw [World.putObj_heap_other (by omega)]; exact hk)
    · rintro i vals Wi hi ⟨hIi, hl, hk⟩ hE hz
      rw [hsz1] at hz ⊢
      have hy := run_yield (P := P) (args := vals) hl (by rw [hrec]; exact hps i vals Wi hE)
      rw [hrec] at hy
      refine ⟨fn, _, assign, body, hy, roundIn_of_wpIn (F := Fence.wide) trivial ?_⟩
      have hfold : ((ps.zip vals).foldl (fun (t : Array Value) (x : Nat × Value) => t.setIfInBounds x.1 x.2) f) = setAll f ps.toList vals.toList := by
        rw [← Array.foldl_toList, Array.toList_zip]; exact fold_setAll _ _ _
      show assign.wpIn (Fence.wide.inRound (w.heap.size + 1)) 0 P _ { tmps := (ps.zip vals).foldl (fun (t : Array Value) (x : Nat × Value) => t.setIfInBounds x.1 x.2) f, defers := [] } Wi
      rw [hfold]
      have hsd := vc_sound ⟨[], some (w.heap.size + 1)⟩ hm assign _ _ Wi (by rw [setAll_size]; exact hs) hoa (hround (w.heap.size + 1) i vals Wi hi hIi hE hz (by have := hlt hl; omega) ⟨_, hl⟩)
      refine wpIn_mono (F := Fence.wide.inRound (w.heap.size + 1)) hsd ?_
      rintro e ⟨f2, ds2⟩ W2 ⟨hd2, hs2, hq⟩
      simp only at hd2 hs2
      subst hd2
      cases e with
      | normal =>
        obtain ⟨hA, hbody⟩ := hq
        have hl2 : W2.heap[w.heap.size + 1]? = some (.loop (rec .ready none)) := by rw [hA.block _ (hlt hl) (fun h => h)]; exact hl
        have hk2 : W2.heap[w.heap.size]? = some (.deferred (some [])) := by rw [hA.block _ (hlt hk) (fun h => h)]; exact hk
        refine ⟨_, run_beginRound hl2 (by rw [hrec]), ?_⟩
        obtain ⟨W3, hW3⟩ : ∃ W3, W2.putObj (w.heap.size + 1) (.loop { rec .ready none with state := .busy }) = W3 := ⟨_, rfl⟩
        rw [hW3]
        have hA3 : Agree (fun k => k = w.heap.size + 1) W2 W3 := by rw [← hW3]; exact Agree.putObj W2 _ rfl
        have hl3 : W3.heap[w.heap.size + 1]? = some (.loop { rec .ready none with state := .busy }) := by rw [← hW3]; exact World.putObj_heap_same (hlt hl2)
        have hk3 : W3.heap[w.heap.size]? = some (.deferred (some [])) := by rw [← hW3, World.putObj_heap_other (by omega)]; exact hk2
        have hbd := vc_sound ⟨[], some (w.heap.size + 1)⟩ hm body _ f2 W3 hs2 hob (hbody W3 hA3)
        refine wpIn_mono (F := Fence.wide.inRound (w.heap.size + 1)) hbd ?_
        have fin : ∀ (jump : Option Code) (W4 : World), Agree (fun k => ¬ (Kp k ∨ Z (w.heap.size + 2) k ∨ k = w.heap.size ∨ k = w.heap.size + 1)) W3 W4 →
            ∃ W5, (Instr.endRound (w.heap.size + 1) jump).run P W4 = .ok (.bool jump.isNone) W5 ∧ Agree (fun k => k = w.heap.size + 1) W4 W5 ∧
              W5.heap[w.heap.size + 1]? = some (.loop (rec (if jump.isNone then .ready else .done) jump)) ∧ W5.heap[w.heap.size]? = some (.deferred (some [])) ∧ Agree (fun k => ¬ (Kp k ∨ Z (w.heap.size + 2) k)) Wi W5 := by
          intro jump W4 hA4
          have hl4 : W4.heap[w.heap.size + 1]? = some (.loop { rec .ready none with state := .busy }) := by rw [hA4.block _ (hlt hl3) (by simp)]; exact hl3
          have hk4 : W4.heap[w.heap.size]? = some (.deferred (some [])) := by rw [hA4.block _ (hlt hk3) (by simp)]; exact hk3
          have hend := run_endRound (P := P) jump hl4
          have hxL : ¬ (Kp (w.heap.size + 1) ∨ Z (w.heap.size + 2) (w.heap.size + 1)) := fun h => h.elim hKp fun hz => (hZ _ hz).2 rfl
          refine ⟨_, hend, Agree.putObj W4 _ rfl, ?_, ?_, ?_⟩
          · rw [World.putObj_heap_same (hlt hl4), hrec]
          · rw [World.putObj_heap_other (by omega)]; exact hk4
          · refine (((hA.mono fun k _ h => h.elim).trans (hA3.mono fun k _ h => by rw [h]; exact hxL)).trans (hA4.mono fun k _ h => fun h' => h (h'.elim .inl fun h => .inr (.inl h)))).trans (Agree.putObj W4 _ hxL)
        rintro e4 a4 W4 ⟨_, _, hq4⟩
        cases e4 with
        | normal =>
          obtain ⟨W5, h1, h2, h3, h4, h5⟩ := fin none W4 hq4.1
          exact ⟨_, W5, h1, .inl ⟨rfl, ⟨hI _ _ _ hq4.2 (h2.mono fun k _ h => .inl h), h3, h4⟩, h5⟩⟩
        | ret =>
          obtain ⟨W5, h1, h2, h3, h4, h5⟩ := fin (some .ret) W4 hq4.1
          exact ⟨_, W5, h1, .inr ⟨rfl, .ret, hIx _ _ _ _ hq4.2 (h2.mono fun k _ h => .inl h), h3, h4⟩⟩
        | exit id =>
          obtain ⟨W5, h1, h2, h3, h4, h5⟩ := fin (some (.exit id)) W4 hq4.1
          exact ⟨_, W5, h1, .inr ⟨rfl, .exit id, hIx _ _ _ _ hq4.2 (h2.mono fun k _ h => .inl h), h3, h4⟩⟩
        | _ => exact hq4.elim
      | _ => exact hq.elim
theorem WPM_range {P : Program} {w : World} (hm : P.follows .mixedOrders = true) {n : Nat} {g : Operand} {ps : Array Tmp} {assign body : Code} {Q : QM} {ds : List Deferred} {f : Array Value}
    {gf : FuncId} {caps : List Value} {cnt : Nat} {E : Nat → Array Value → World → Prop} {Z : Nat → Nat → Prop} {Kp : Nat → Prop} {w0 : World}
    (hit : IterC P gf caps cnt E Z Kp w0) (hB0 : Below w0.heap.size w0 w) (hs : f.size = n) (hg : evo f g = .func (.func gf) #[] caps.toArray) (hgf : callB P gf = true)
    (hps : ∀ i vals W, E i vals W → vals.size = ps.size) (hoa : codeOk n assign = true) (hob : codeOk n body = true)
    (hZ : ∀ k, Z (w.heap.size + 2) k → k ≠ w.heap.size ∧ k ≠ w.heap.size + 1) (hKp : ¬ Kp (w.heap.size + 1))
    (I : Nat → World → Prop) (Ix : Code → Nat → World → Prop)
    (hI : ∀ i A B, I i A → Agree (fun k => k = w.heap.size + 1 ∨ Z (w.heap.size + 2) k) A B → I i B)
    (hIx : ∀ c i A B, Ix c i A → Agree (fun k => k = w.heap.size + 1 ∨ Z (w.heap.size + 2) k) A B → Ix c i B) (h0 : I 0 w)
    (hround : ∀ l i vals W1, i < cnt → I i W1 → E i vals W1 → (∀ k, Z (w.heap.size + 2) k → k < W1.heap.size) → w.heap.size + 2 ≤ W1.heap.size →
      Now (vc ⟨[], some l⟩ P n assign (asgF l P n body I Ix (fun k => Kp k ∨ Z (w.heap.size + 2) k ∨ k = w.heap.size ∨ k = w.heap.size + 1) i (w.heap.size + 1) W1) (setAll f ps.toList vals.toList) W1))
    (hdone : ∀ W, I cnt W → W.heap[w.heap.size]? = some (.deferred (some [])) → Now (Q .normal (markOf w.heap.size :: ds) f W))
    (hstop : ∀ c i W, Ix c i W → W.heap[w.heap.size]? = some (.deferred (some [])) → WPM P n c Q (markOf w.heap.size :: ds) f W) :
    WPM P n (.rangeFunc g ps assign body) Q ds f w :=
  WPM_rangeL hm hit hB0 hs hg hgf hps hoa hob hZ hKp I Ix hI hIx h0 (fun l i vals W1 h1 h2 h3 h4 h5 _ => hround l i vals W1 h1 h2 h3 h4 h5) hdone hstop

/-- A slice that reads is not a loop's record. -/
theorem Rd.agreeL {w w' : World} {A : Option Addr} {xs : List Value} {L : Nat} (h : Rd w A xs) (hL : ∃ r, w.heap[L]? = some (.loop r)) (hA : Agree (fun k => k = L) w w') : Rd w' A xs := by
  intro h0
  obtain ⟨b, o, rfl, hlt, hc⟩ := h h0
  obtain ⟨r, hr⟩ := hL
  have hne : ¬ b = L := by
    rintro rfl
    have := hc 0 h0
    rw [List.getElem?_eq_getElem h0] at this
    unfold World.cell? at this
    simp [hr] at this
  exact ⟨b, o, rfl, Nat.lt_of_lt_of_le hlt hA.size, fun j hj => (hA.cell hlt hne).trans (hc j hj)⟩

/-! ### Loops over code that lays marks -/
def loopKM (f : Array Value) (nm jk : List Nat) (J : Nat → List Value → List Deferred → World → Prop) (m : Nat) (ds' : List Deferred) (f' : Array Value) (w' : World) : Tied (J, f) :=
  SAME f f' nm jk ∧ ∃ m', m' < m ∧ J m' (nm.map fun t => f'.getD t undef) ds' w'

theorem loop_ruleM {P : Program} {w : World} {n : Nat} {body : Code} {Q : QM} {ds : List Deferred} {f : Array Value} (hs : f.size = n)
    (I : Nat → List Deferred → Array Value → World → Prop) (m0 : Nat) (h0 : I m0 ds f w)
    (hr : ∀ m ds f w, f.size = n → I m ds f w → WPM P n body (thenM (fun ds' f' w' => ∃ m', m' < m ∧ I m' ds' f' w') Q) ds f w) : WPM P n (.loop body) Q ds f w := by
  have least : ∀ (ds : List Deferred) (f : Array Value) (w : World), (∃ m, I m ds f w) → ∃ m, I m ds f w ∧ ∀ m', m' < m → ¬ I m' ds f w := by
    intro ds f w ⟨m, hm⟩
    induction m using Nat.strongRecOn with
    | _ m ih =>
      by_cases h : ∃ m', m' < m ∧ I m' ds f w
      · obtain ⟨m', h1, h2⟩ := h; exact ih m' h1 h2
      · exact ⟨m, hm, fun m' h1 h2 => h ⟨m', h1, h2⟩⟩
  classical
  refine wpIn_loop (fun a w => a.tmps.size = n ∧ ∃ m, I m a.defers a.tmps w) (fun a w => if h : ∃ m, I m a.defers a.tmps w then (least a.defers a.tmps w h).choose else 0) ⟨hs, m0, h0⟩ ?_
  rintro ⟨f1, ds1⟩ w1 ⟨hs1, hI⟩
  simp only at hs1 hI
  obtain ⟨h1, h2⟩ := (least ds1 f1 w1 hI).choose_spec
  refine wpIn_mono (hr _ ds1 f1 w1 hs1 h1) ?_
  rintro e a w2 ⟨hsz, hq⟩
  cases e with
  | normal =>
    obtain ⟨m', hlt, hI'⟩ := hq
    refine ⟨⟨hsz, m', hI'⟩, ?_⟩
    simp only
    rw [dif_pos hI, dif_pos ⟨m', hI'⟩]
    obtain ⟨h3, h4⟩ := (least a.defers a.tmps w2 ⟨m', hI'⟩).choose_spec
    exact Nat.lt_of_le_of_lt (Nat.le_of_not_lt fun h => h4 m' h hI') hlt
  | _ => exact ⟨hsz, hq⟩

theorem loop_slotsM {P : Program} {w : World} (hm : P.follows .mixedOrders = true) {n : Nat} {body : Code} {Q : QM} {ds : List Deferred} {f : Array Value} (nm jk : List Nat) (J : Nat → List Value → List Deferred → World → Prop) (m0 : Nat)
    (hok : codeOk n body = true) (hs : f.size = n) (h0 : J m0 (nm.map fun t => f.getD t undef) ds w)
    (hr : ∀ m vs u ds w, J m vs ds w → Now (vcM P n body (thenM (loopKM f nm jk J m) Q) ds (mixF f nm vs jk u) w)) : WPM P n (.loop body) Q ds f w := by
  refine loop_ruleM hs (fun m ds' f' w' => (∃ vs u, f' = mixF f nm vs jk u) ∧ J m (nm.map fun t => f'.getD t undef) ds' w') m0 ⟨⟨nm.map fun t => f.getD t undef, fun t => f.getD t undef, ?_⟩, h0⟩ ?_
  · unfold mixF
    rw [setAll_self, setAll_self]
  · rintro m ds' f' w' hs' ⟨⟨vs, u, hf⟩, hJ⟩
    have hfr : f' = mixF f nm (nm.map fun t => f'.getD t undef) jk u := by
      rw [hf]
      unfold mixF
      generalize setAll f jk (jk.map u) = g
      exact setAll_again g nm vs
    have h1 := hr m _ u ds' w' hJ
    rw [← hfr] at h1
    refine wpIn_mono (vcM_sound hm body _ ds' f' w' hs' hok h1) ?_
    rintro e a w'' ⟨hsz, hq⟩
    refine ⟨hsz, ?_⟩
    cases e with
    | normal => exact (let ⟨hS, m', hlt, hJ'⟩ := hq; ⟨m', hlt, ⟨_, _, hS⟩, hJ'⟩)
    | _ => exact hq
end Go.VC
