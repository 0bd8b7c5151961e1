/- A region that draws its order: what reads cells that nobody writes is taken first; what writes stands alone. -/
import Derived.Test.YtelfmhiaafkimaaPlan
import Derived.Test.YtelfmhiaafkimaaRange
import Derived.OrdersHeld
import Derived.OrdersIn
namespace Go.VC
open Go Go.RowKit
set_option linter.unusedVariables false
set_option linter.unusedSimpArgs false

section
variable {F : Fence} {n : Nat} {P : Program} {ops : Array Oper} {Q : Exit → Act → World → Prop} {md : Region.Mode} {S : World → Prop} {L : Nat}
def YieldsS (P : Program) (ops : Array Oper) (S : World → Prop) (o : Oper) (v : Value) (a : Act) : Prop := YieldsIf P ops S o v a ∧ ∀ w, o.about P w a.eval = none
theorem YieldsS.runs {i : Nat} {o : Oper} {v : Value} {a : Act} (hro : F.round = none) (hi : ops[i]? = some o) (hy : YieldsS P ops S o v a) {K : Act → World → Prop} {w : World} (hS : S w) (h : K (a.put o.dst v) w) : wpOpIn F n P ops Q i K a w := by
  unfold wpOpIn
  simp only [hi]
  have hab : ∀ f, o.about P w a.eval = some f → F.fn f := fun f hf => by rw [hy.2 w] at hf; cases hf
  rcases hy.1 with ⟨hw, hv⟩ | ⟨hw, rfl⟩
  · simp only [hw, if_true, Oper.wpIn, hro, Oper.semAt_none, hv w hS, Oper.uponIn]; exact ⟨hab, h⟩
  · simp only [hw, Bool.false_eq_true, if_false]; exact ⟨hab, h⟩
/-- What the next operation leaves alone goes through it. -/
theorem wpOpIn_keeps {Y : Act → Prop} {j : Nat} {oi oj : Oper} {v : Value} (hro : F.round = none) (hj : ops[j]? = some oj) (hap : oi.apart ops oj = true) (hsj : ∀ cs b, oj.op ≠ .select cs b) (hnd : ∀ c, oj.op ≠ .defer c)
    (hQ : ∀ c a w, Q (.panic c) (a.put oi.dst v) w → Q (.panic c) a w) (keep : ∀ a, Y a → ∀ u, Y (a.put oj.dst u)) (keepD : ∀ a d, Y a → Y { a with defers := d :: a.defers }) {K : Act → World → Prop} {a : Act} {w : World}
    (hy : Y a) (h : wpOpIn F n P ops Q j K (a.put oi.dst v) w) : wpOpIn F n P ops Q j (fun a' w' => Y a' ∧ K (a'.put oi.dst v) w') a w := by
  obtain ⟨h1, h2, h3⟩ := Oper.apart_spec hap
  unfold wpOpIn at *
  simp only [hj] at *
  rw [wanted_put oj a oi.dst v h1, about_put oj w a oi.dst v h1] at h
  split
  · rename_i hw
    simp only [hw, if_true] at h
    unfold Oper.wpIn at *
    rw [about_put oj w a oi.dst v h1] at h
    refine ⟨h.1, ?_⟩
    have h := h.2
    rw [hro, Oper.semAt_none, execOp_put oj hsj a oi.dst v h1] at h
    rw [hro, Oper.semAt_none]
    generalize (execOp a.eval oj).run P w = r at *
    cases r with
    | ok x w' =>
      cases x <;> simp only [Oper.uponIn] at h ⊢
      case value u => exact ⟨keep a hy u, by rw [← Act.put_comm a v u h2]; exact h⟩
      case skip => exact ⟨keep a hy _, by rw [← Act.put_comm a v undef h2]; exact h⟩
      case defer d =>
        refine ⟨keep _ (keepD a d hy) _, ?_⟩
        rw [← Act.put_comm _ v undef h2, ← Act.put_defers]
        exact h
      case enter f args =>
        refine ⟨h.1, CallsIn.mono h.2 fun e w'' he => ?_⟩
        cases e with
        | returned u => exact ⟨keep a hy u, by rw [← Act.put_comm a v u h2]; exact he⟩
        | panicked c => exact hQ _ _ _ he
        | outgrown => exact he
      case row row args => exact ⟨h.1, RowsIn.mono h.2 fun u w'' he => ⟨keep a hy u, by rw [← Act.put_comm a v u h2]; exact he⟩⟩
      case round l f tmps assign body =>
        refine ⟨h.1, RoundIn.mono h.2 fun e w'' he => ?_⟩
        cases e with
        | returned u => exact ⟨keep a hy u, by rw [← Act.put_comm a v u h2]; exact he⟩
        | panicked c => exact hQ _ _ _ he
        | outgrown => exact he
    | halt x w' =>
      cases x <;> simp only [Oper.uponIn] at h ⊢
      case panic u => exact hQ _ _ _ h
  · rename_i hw
    simp only [hw] at h
    exact ⟨h.1, keep a hy _, by rw [← Act.put_comm a v undef h2]; exact h.2⟩

/-- Whatever comes up next; behind each but the last one, S holds. -/
def wpAnyS (F : Fence) (n : Nat) (P : Program) (md : Region.Mode) (ops : Array Oper) (Q : Exit → Act → World → Prop) (S : World → Prop) (L : Nat) : Nat → Array Bool → Act → World → Prop
  | 0, listed, a, w => Region.ready md ops listed = [] ∧ Q .normal a w
  | fuel + 1, listed, a, w => (Region.ready md ops listed = [] → Q .normal a w) ∧
    ∀ i ∈ Region.ready md ops listed, wpOpIn F n P ops Q i (fun a' w' => (i ≠ L → S w' ∧ wpAnyS F n P md ops Q S L fuel (listed.setIfInBounds i true) a' w') ∧ (i = L → wpAnyIn F n P md ops Q fuel (listed.setIfInBounds i true) a' w')) a w
theorem wpAnyS_in : ∀ (fuel : Nat) (listed : Array Bool) (a : Act) (w : World), wpAnyS F n P md ops Q S L fuel listed a w → wpAnyIn F n P md ops Q fuel listed a w
  | 0, _, _, _, h => h
  | fuel + 1, _, _, _, h => ⟨h.1, fun i hi => wpOpIn_mono (fun a' w' h' => (Decidable.em (i = L)).elim h'.2 fun hne => wpAnyS_in fuel _ a' w' (h'.1 hne).2) (h.2 i hi)⟩
theorem wpAnyS_first {i : Nat} {oi : Oper} {v : Value} (hiL : i ≠ L) (hro : F.round = none) (hi : ops[i]? = some oi) (hsel : ∀ (j : Nat) (o : Oper) cs b, ops[j]? = some o → o.op ≠ .select cs b) (hnd : ∀ (j : Nat) (o : Oper) c, ops[j]? = some o → o.op ≠ .defer c)
    (hL : ∀ o, ops[L]? = some o → ∃ e ∈ o.after, Region.binds md e = true ∧ e.on = i) (hQ : ∀ c a w, Q (.panic c) (a.put oi.dst v) w → Q (.panic c) a w) :
    ∀ (fuel : Nat) (listed : Array Bool) (a : Act) (w : World),
      (∀ j oj, ops[j]? = some oj → j ≠ i → listed.getD j true = false → (∀ e ∈ oj.after, Region.binds md e = true → e.on ≠ i) → oi.apart ops oj = true) →
      i ∈ Region.ready md ops listed → YieldsS P ops S oi v a → S w →
      wpAnyS F n P md ops Q S L fuel (listed.setIfInBounds i true) (a.put oi.dst v) w → wpAnyS F n P md ops Q S L (fuel + 1) listed a w := by
  intro fuel
  induction fuel with
  | zero =>
    intro listed a w _ hr hy hS H
    refine ⟨fun h => (by rw [h] at hr; cases hr), fun j hj => ?_⟩
    by_cases hji : j = i
    · subst hji; exact hy.runs hro hi hS ⟨fun _ => ⟨hS, H⟩, fun e => absurd e hiL⟩
    · have := ready_mono hj hji
      rw [H.1] at this
      cases this
  | succ fuel ih =>
    intro listed a w hfree hr hy hS H
    refine ⟨fun h => (by rw [h] at hr; cases hr), fun j hj => ?_⟩
    by_cases hji : j = i
    · subst hji; exact hy.runs hro hi hS ⟨fun _ => ⟨hS, H⟩, fun e => absurd e hiL⟩
    · have h1 := H.2 j (ready_mono hj hji)
      obtain ⟨hjun, oj, hoj, hall⟩ := mem_ready.1 hj
      have hnot : ∀ e ∈ oj.after, Region.binds md e = true → e.on ≠ i := fun e he hb heq => by
        have h1 := hall e he hb
        have h0 := (mem_ready.1 hr).1
        rw [heq] at h1
        rcases Nat.lt_or_ge i listed.size with h' | h'
        · simp [h'] at h0 h1; rw [h0] at h1; cases h1
        · simp [Array.getElem?_eq_none h'] at h1
      have hap := hfree j oj hoj hji hjun hnot
      have hjL : j ≠ L := fun e => by
        subst e
        obtain ⟨e, he, hb, hei⟩ := hL oj hoj
        exact hnot e he hb hei
      obtain ⟨_, _, h3⟩ := Oper.apart_spec hap
      have h2 := wpOpIn_keeps (Y := YieldsS P ops S oi v) hro hoj hap (fun cs b => hsel j oj cs b hoj) (fun c => hnd j oj c hoj) hQ
        (fun a hy u => ⟨hy.1.of_same (execOp_put oi (fun cs b => hsel i oi cs b hi) a oj.dst u h3) (wanted_put oi a oj.dst u h3), fun w => by rw [about_put oi w a oj.dst u h3]; exact hy.2 w⟩)
        (fun a d hy => ⟨hy.1.of_same rfl rfl, hy.2⟩) hy h1
      have hfree' : ∀ k ok, ops[k]? = some ok → k ≠ i → (listed.setIfInBounds j true).getD k true = false →
          (∀ e ∈ ok.after, Region.binds md e = true → e.on ≠ i) → oi.apart ops ok = true := fun k ok hk hki hun hno => by
        refine hfree k ok hk hki ?_ hno
        by_cases hjk : j = k
        · subst hjk; exact hjun
        · rw [getD_set_ne true hjk] at hun; exact hun
      refine wpOpIn_mono (fun a' w' h3 => ⟨fun _ => ⟨(h3.2.1 hjL).1, ih (listed.setIfInBounds j true) a' w' hfree' (ready_mono hr (Ne.symm hji)) h3.1 (h3.2.1 hjL).1 ?_⟩, fun e => absurd e hjL⟩) h2
      rw [Array.setIfInBounds_comm _ _ hji]
      exact (h3.2.1 hjL).2
end

section
variable {P : Program} {w w' : World}
theorem rdK_local {a : Addr} (h : w'.cell? a = w.cell? a) (k : K) : rdK w' a k = rdK w a k := by
  cases k <;> simp [rdK, rdI, rdB, rdP, rdSA, rdSN, rdSC, rdM, rdV, h]
theorem ldv_local {t : TypeId} {p : Addr} (h : w'.heap[p.block]? = w.heap[p.block]?) : ldv P w' t (.pointer (some p)) = ldv P w t (.pointer (some p)) := by
  have hc : ∀ i, w'.cell? (p.add i) = w.cell? (p.add i) := fun i => World.cell?_of_block (w := w) (a := p.add i) (by rw [show (p.add i).block = p.block by unfold Addr.add; split <;> rfl]; exact h)
  have hc0 : w'.cell? p = w.cell? p := World.cell?_of_block h
  have hks : ∀ (ks : List K) (i : Nat), rdKs w' p i ks = rdKs w p i ks := by
    intro ks; induction ks with
    | nil => intro i; rfl
    | cons k ks ih => intro i; simp only [rdKs, rdK_local (hc i), ih]
  have hok : ∀ (ks : List K) (i : Nat), okKs w' p i ks = okKs w p i ks := by
    intro ks; induction ks with
    | nil => intro i; rfl
    | cons k ks ih => intro i; simp only [okKs, rdK_local (hc i), hc, ih]
  simp only [ldv, hks, hok, hc0, rdK_local hc0]
end

inductive HPlan where
  | done
  | take (i : Nat) (r : HPlan)
  | one (i : Nat) (r : HPlan)
  /-- two may come, nothing else -/
  | two (i : Nat) (r : HPlan) (j : Nat) (r' : HPlan)
  /-- two may come, the second one is the last one held -/
  | twoL (i : Nat) (r : HPlan) (j : Nat) (p : Plan)
  /-- those of G, in any order that they may come in -/
  | any (G : List Nat) (r : HPlan)
  /-- the one behind which nothing is held any more -/
  | last (i : Nat) (p : Plan)
def nextP (G : List Nat) (i : Nat) (r : HPlan) : HPlan := if (G.filter (· != i)).isEmpty then r else .any (G.filter (· != i)) r
def loadB (o : Oper) : Bool := o.guard.isNone && opOk [] [] o && match o.op with | .load .. => true | _ => false
def nilB (o : Oper) : Bool := o.guard.isNone && opOk [] [] o && match o.op with | .nilCheck .. => true | _ => false
/-- The last one waits for i. -/
def waitsB (ops : Array Oper) (L i : Nat) : Bool := match ops[L]? with
  | some o => o.after.toList.any fun e => Region.binds .any e && decide (e.on = i)
  | none => true
def heldOk (ops : Array Oper) (L : Nat) : Nat → HPlan → Array Bool → Bool
  | _, .done, s => (Region.ready .any ops s).isEmpty
  | m + 1, .take i r, s => (match ops[i]? with | some o => stillB o || loadB o || nilB o | none => false) && Region.free .any ops s i && (Region.ready .any ops s).contains i && waitsB ops L i && decide (i ≠ L) && heldOk ops L m r (s.setIfInBounds i true)
  | m + 1, .one i r, s => (match ops[i]? with | some o => aloneB o | none => false) && decide (Region.ready .any ops s = [i]) && (decide (i ≠ L) || (match r with | .done => true | _ => false)) && heldOk ops L m r (s.setIfInBounds i true)
  | m + 1, .two i r j r', s => (match ops[i]?, ops[j]? with | some o, some o' => aloneB o && aloneB o' | _, _ => false) && decide (Region.ready .any ops s = [i, j]) && decide (i ≠ L) && decide (j ≠ L) && heldOk ops L m r (s.setIfInBounds i true) && heldOk ops L m r' (s.setIfInBounds j true)
  | m + 1, .twoL i r j p, s => (match ops[i]?, ops[j]? with | some o, some o' => aloneB o && aloneB o' | _, _ => false) && decide (Region.ready .any ops s = [i, j]) && decide (i ≠ L) && decide (j = L) && heldOk ops L m r (s.setIfInBounds i true) && planOk ops m p (s.setIfInBounds j true)
  | m + 1, .any G r, s => !(Region.ready .any ops s).isEmpty && G.all (fun j => !s.getD j true) && (Region.ready .any ops s).all fun i => G.contains i && (match ops[i]? with | some o => aloneB o | none => false) && decide (i ≠ L) && heldOk ops L m (nextP G i r) (s.setIfInBounds i true)
  | m + 1, .last i p, s => (match ops[i]? with | some o => aloneB o | none => false) && decide (Region.ready .any ops s = [i]) && decide (i = L) && planOk ops m p (s.setIfInBounds i true)
  | 0, _, _ => false
/-- What is read lies where nobody writes. -/
def okRd (ok : Nat → Prop) (f : Array Value) (o : Oper) : Prop := match o.op with
  | .load _ a => match evo f a with
    | .pointer (some p) => ok p.block
    | _ => False
  | _ => True
def heldF (P : Program) (ops : Array Oper) (L : Nat) (S : World → Prop) (ok : Nat → Prop) (Q : Array Value → World → Prop) : HPlan → Array Value → World → Tied Q
  | .done, f, w => Q f w
  | .take i r, f, w => match ops[i]? with
    | some o => (opP P w f o).c ∧ okRd ok f o ∧ heldF P ops L S ok Q r (put o.dst f (opP P w f o).v) w
    | none => False
  | .one i r, f, w => match ops[i]? with
    | some o => eff P o f w fun v w' => (i ≠ L → S w') ∧ heldF P ops L S ok Q r (put o.dst f v) w'
    | none => False
  | .two i r j r', f, w => match ops[i]?, ops[j]? with
    | some o, some o' => eff P o f w (fun v w' => (i ≠ L → S w') ∧ heldF P ops L S ok Q r (put o.dst f v) w') ∧ eff P o' f w (fun v w' => (j ≠ L → S w') ∧ heldF P ops L S ok Q r' (put o'.dst f v) w')
    | _, _ => False
  | .twoL i r j p, f, w => match ops[i]?, ops[j]? with
    | some o, some o' => eff P o f w (fun v w' => (i ≠ L → S w') ∧ heldF P ops L S ok Q r (put o.dst f v) w') ∧ eff P o' f w (fun v w' => planF P ops Q p (put o'.dst f v) w')
    | _, _ => False
  | .any G r, f, w => ∃ J : List Nat → Array Value → World → Prop, J G f w ∧ (∀ H i o f w, J H f w → i ∈ H → ops[i]? = some o → (∀ e ∈ o.after, Region.binds .any e = true → e.on ∉ H) → eff P o f w fun v w' => S w' ∧ J (H.filter (· != i)) (put o.dst f v) w') ∧
      ∀ f w, f.size ≤ f.size → J [] f w → heldF P ops L S ok Q r f w
  | .last i p, f, w => match ops[i]? with
    | some o => eff P o f w fun v w' => planF P ops Q p (put o.dst f v) w'
    | none => False
def heldK (P : Program) (ops : Array Oper) (L : Nat) (S : World → Prop) (ok : Nat → Prop) (Q : Array Value → World → Prop) (i : Nat) (r : HPlan) (d : Option Tmp) (f : Array Value) (v : Value) (w : World) : Tied (Q, r) := (i ≠ L → S w) ∧ heldF P ops L S ok Q r (put d f v) w
section
variable {P : Program} {ops : Array Oper} {L : Nat} {S : World → Prop} {ok : Nat → Prop} {Q : Array Value → World → Prop}
theorem heldF_done {f : Array Value} {w : World} : heldF P ops L S ok Q .done f w = Q f w := rfl
theorem heldF_take {i : Nat} {r : HPlan} {f : Array Value} {w : World} : heldF P ops L S ok Q (.take i r) f w = match ops[i]? with
    | some o => (opP P w f o).c ∧ okRd ok f o ∧ heldF P ops L S ok Q r (put o.dst f (opP P w f o).v) w
    | none => False := rfl
theorem heldF_one {i : Nat} {r : HPlan} {f : Array Value} {w : World} : heldF P ops L S ok Q (.one i r) f w = match ops[i]? with
    | some o => eff P o f w (heldK P ops L S ok Q i r o.dst f)
    | none => False := rfl
theorem heldF_two {i j : Nat} {r r' : HPlan} {f : Array Value} {w : World} : heldF P ops L S ok Q (.two i r j r') f w = match ops[i]?, ops[j]? with
    | some o, some o' => eff P o f w (heldK P ops L S ok Q i r o.dst f) ∧ eff P o' f w (heldK P ops L S ok Q j r' o'.dst f)
    | _, _ => False := rfl
theorem heldF_twoL {i j : Nat} {r : HPlan} {p : Plan} {f : Array Value} {w : World} : heldF P ops L S ok Q (.twoL i r j p) f w = match ops[i]?, ops[j]? with
    | some o, some o' => eff P o f w (heldK P ops L S ok Q i r o.dst f) ∧ eff P o' f w (planK P ops Q p o'.dst f)
    | _, _ => False := rfl
theorem heldF_last {i : Nat} {p : Plan} {f : Array Value} {w : World} : heldF P ops L S ok Q (.last i p) f w = match ops[i]? with
    | some o => eff P o f w (planK P ops Q p o.dst f)
    | none => False := rfl
theorem heldF_any {G : List Nat} {r : HPlan} {f : Array Value} {w : World} (J : List Nat → Array Value → World → Prop) (h0 : J G f w)
    (hst : ∀ H i o f w, J H f w → i ∈ H → ops[i]? = some o → (∀ e ∈ o.after, Region.binds .any e = true → e.on ∉ H) → Now (eff P o f w fun v w' => S w' ∧ J (H.filter (· != i)) (put o.dst f v) w'))
    (hend : ∀ f w, J [] f w → Now (heldF P ops L S ok Q r f w)) : heldF P ops L S ok Q (.any G r) f w := ⟨J, h0, hst, fun f w _ h => hend f w h⟩
theorem heldK_eq {i : Nat} {r : HPlan} {d : Option Tmp} {f : Array Value} {v : Value} {w : World} : heldK P ops L S ok Q i r d f v w = ((i ≠ L → S w) ∧ heldF P ops L S ok Q r (put d f v) w) := rfl

theorem held_opP {o : Oper} {f : Array Value} {w w' : World} (h : (stillB o || loadB o || nilB o) = true) (hr : okRd ok f o) (hS : ∀ b, ok b → w'.heap[b]? = w.heap[b]?) : opP P w' f o = opP P w f o := by
  simp only [Bool.or_eq_true] at h
  rcases h with (h | h) | h
  · exact still_alike h f w w'
  · obtain ⟨t, a, ho⟩ : ∃ t a, o.op = .load t a := by
      unfold loadB at h
      cases hop : o.op <;> first | exact ⟨_, _, rfl⟩ | simp [hop] at h
    have e : ∀ wq, opP P wq f o = ldv P wq t (evo f a) := fun wq => by simp only [opP, pv, ho]
    unfold okRd at hr
    simp only [ho] at hr
    rw [e, e]
    cases hp : evo f a with
    | pointer q =>
      cases q with
      | none => simp [hp] at hr
      | some p => simp only [hp] at hr; exact ldv_local (hS _ hr)
    | _ => simp [hp] at hr
  · unfold opP
    split
    · rfl
    · unfold pv
      split <;> first | rfl | (rename_i ho; simp [nilB, ho] at h)
theorem held_spec {o : Oper} (h : (stillB o || loadB o || nilB o) = true) : o.guard = none ∧ opOk [] [] o = true ∧ ∀ c, o.op ≠ .call c := by
  simp only [Bool.or_eq_true] at h
  rcases h with (h | h) | h
  · exact still_spec h
  · simp only [loadB, Bool.and_eq_true, Option.isNone_iff_eq_none] at h
    refine ⟨h.1.1, h.1.2, fun c ho => ?_⟩
    have := h.2
    simp [ho] at this
  · simp only [nilB, Bool.and_eq_true, Option.isNone_iff_eq_none] at h
    refine ⟨h.1.1, h.1.2, fun c ho => ?_⟩
    have := h.2
    simp [ho] at this

theorem held_sound (ds : List Deferred) {n : Nat} {Q' : Exit → Act → World → Prop} (hsel : Region.noSelect ops = true) (hnd : ∀ (j : Nat) (o : Oper) c, ops[j]? = some o → o.op ≠ .defer c) (hSS : ∀ w w', S w → S w' → ∀ b, ok b → w'.heap[b]? = w.heap[b]?) (hQ : ∀ f w, f.size = n → Q f w → Q' .normal ⟨f, ds⟩ w) :
    ∀ (m : Nat) (p : HPlan) (s : Array Bool) (f : Array Value) (w : World), f.size = n → S w → heldOk ops L m p s = true → heldF P ops L S ok Q p f w → wpAnyS (Ctx.mk ds none).F 0 P .any ops (noPanic Q') S L m s ⟨f, ds⟩ w := by
  have fin : ∀ (m : Nat) (s : Array Bool) (f : Array Value) (w : World), f.size = n → heldOk ops L m .done s = true → heldF P ops L S ok Q .done f w → wpAnyS (Ctx.mk ds none).F 0 P .any ops (noPanic Q') S L m s ⟨f, ds⟩ w := by
    intro m s f w hs hok h
    have hr : Region.ready .any ops s = [] := by cases m <;> simpa [heldOk] using hok
    cases m with
    | zero => exact ⟨hr, fun c h => (by cases h), hQ f w hs h⟩
    | succ m => exact ⟨fun _ => ⟨fun c h => (by cases h), hQ f w hs h⟩, by rw [hr]; simp⟩
  intro m
  induction m with
  | zero =>
    intro p s f w hs hS hok h
    cases p with
    | done => exact ⟨by simpa [heldOk] using hok, fun c h => (by cases h), hQ f w hs h⟩
    | _ => simp [heldOk] at hok
  | succ m ih =>
    intro p s f w hs hS hok h
    cases p with
    | done =>
      have hr : Region.ready .any ops s = [] := by simpa [heldOk] using hok
      exact ⟨fun _ => ⟨fun c h => (by cases h), hQ f w hs h⟩, by rw [hr]; simp⟩
    | take i r =>
      unfold heldOk at hok
      simp only [Bool.and_eq_true] at hok
      obtain ⟨⟨⟨⟨⟨h1, h2⟩, h3⟩, h5⟩, h8⟩, h4⟩ := hok
      have h8 : i ≠ L := by simpa using h8
      rw [heldF_take] at h
      cases ho : ops[i]? with
      | none => simp [ho] at h1
      | some o =>
        simp only [ho] at h h1
        obtain ⟨hg, hok1, hnc⟩ := held_spec h1
        refine wpAnyS_first (oi := o) h8 (v := (opP P w f o).v) rfl ho (Region.noSelect_spec hsel) hnd (fun oL hoL => by
          unfold waitsB at h5
          simp only [hoL] at h5
          obtain ⟨e, he, hb⟩ := List.any_eq_true.1 h5
          simp only [Bool.and_eq_true, decide_eq_true_eq] at hb
          exact ⟨e, by simpa using he, hb.1, hb.2⟩) (fun c a w hp => absurd rfl (hp.1 c)) m s ⟨f, ds⟩ w (Region.free_spec ho h2) (by simpa using h3) ⟨.inl ⟨by simp [Region.wanted, hg], fun w' hS' => ?_⟩, fun w' => ?_⟩ hS ?_
        · have e := held_opP (P := P) (w := w) (w' := w') h1 h.2.1 (hSS w w' hS hS')
          have hc : (opP P w' f o).c := by rw [e]; exact h.1
          have := run_opP (P := P) (w := w') (Inv.start f) hok1 (c0 := []) (fun _ _ h => by cases h) hc ds
          rw [this, e]
        · unfold Oper.about
          cases hop : o.op <;> first | rfl | exact absurd hop (hnc _)
        · rw [put_act]
          exact ih r _ _ w (by rw [put_size]; exact hs) hS h4 h.2.2
    | one i r =>
      unfold heldOk at hok
      simp only [Bool.and_eq_true, decide_eq_true_eq, Bool.or_eq_true] at hok
      obtain ⟨⟨⟨h1, h2⟩, h6⟩, h3⟩ := hok
      rw [heldF_one] at h
      cases ho : ops[i]? with
      | none => simp [ho] at h1
      | some o =>
        simp only [ho] at h h1
        refine ⟨fun h0 => (by rw [h2] at h0; cases h0), ?_⟩
        rw [h2]
        intro j hj
        rw [List.mem_singleton] at hj
        subst hj
        obtain ⟨hg, hok1⟩ := alone_spec h1
        unfold wpOpIn
        simp only [ho]
        rw [if_pos (by simp [Region.wanted, hg])]
        exact eff_wp ⟨ds, none⟩ hok1 h fun v w' hk => by
          rw [heldK_eq] at hk
          rw [put_act]
          refine ⟨fun hjL => ⟨hk.1 hjL, ih r _ _ w' (by rw [put_size]; exact hs) (hk.1 hjL) h3 hk.2⟩, fun hjL => ?_⟩
          have hrd : r = .done := by
            cases r with
            | done => rfl
            | _ => simp [hjL] at h6
          subst hrd
          have hr : Region.ready .any ops (s.setIfInBounds j true) = [] := by cases m <;> simpa [heldOk] using h3
          exact wpAnyIn_done hr ⟨fun c h => (by cases h), hQ _ _ (by rw [put_size]; exact hs) hk.2⟩ m
    | two i r j r' =>
      unfold heldOk at hok
      simp only [Bool.and_eq_true, decide_eq_true_eq] at hok
      obtain ⟨⟨⟨⟨⟨h1, h2⟩, h6⟩, h7⟩, h3⟩, h4⟩ := hok
      rw [heldF_two] at h
      cases ho : ops[i]? with
      | none => simp [ho] at h1
      | some o =>
        cases ho' : ops[j]? with
        | none => simp [ho, ho'] at h1
        | some o' =>
          simp only [ho, ho', Bool.and_eq_true] at h h1
          refine ⟨fun h0 => (by rw [h2] at h0; cases h0), ?_⟩
          rw [h2]
          have one : ∀ (k : Nat) (q : Oper) (r : HPlan), ops[k]? = some q → aloneB q = true → k ≠ L → heldOk ops L m r (s.setIfInBounds k true) = true → eff P q f w (heldK P ops L S ok Q k r q.dst f) →
              wpOpIn (Ctx.mk ds none).F 0 P ops (noPanic Q') k (fun a' w' => (k ≠ L → S w' ∧ wpAnyS (Ctx.mk ds none).F 0 P .any ops (noPanic Q') S L m (s.setIfInBounds k true) a' w') ∧ (k = L → wpAnyIn (Ctx.mk ds none).F 0 P .any ops (noPanic Q') m (s.setIfInBounds k true) a' w')) ⟨f, ds⟩ w := by
            intro k q r hq ha hkL hr he
            obtain ⟨hg, hok1⟩ := alone_spec ha
            unfold wpOpIn
            simp only [hq]
            rw [if_pos (by simp [Region.wanted, hg])]
            exact eff_wp ⟨ds, none⟩ hok1 he fun v w' hk => by
              rw [heldK_eq] at hk
              rw [put_act]
              exact ⟨fun _ => ⟨hk.1 hkL, ih r _ _ w' (by rw [put_size]; exact hs) (hk.1 hkL) hr hk.2⟩, fun e => absurd e hkL⟩
          intro k hk
          simp only [List.mem_cons, List.not_mem_nil, or_false] at hk
          rcases hk with rfl | rfl
          · exact one k o r ho h1.1 h6 h3 h.1
          · exact one k o' r' ho' h1.2 h7 h4 h.2
    | twoL i r j p =>
      unfold heldOk at hok
      simp only [Bool.and_eq_true, decide_eq_true_eq] at hok
      obtain ⟨⟨⟨⟨⟨h1, h2⟩, h6⟩, h7⟩, h3⟩, h4⟩ := hok
      rw [heldF_twoL] at h
      cases ho : ops[i]? with
      | none => simp [ho] at h1
      | some o =>
        cases ho' : ops[j]? with
        | none => simp [ho, ho'] at h1
        | some o' =>
          simp only [ho, ho', Bool.and_eq_true] at h h1
          refine ⟨fun h0 => (by rw [h2] at h0; cases h0), ?_⟩
          rw [h2]
          intro k hk
          simp only [List.mem_cons, List.not_mem_nil, or_false] at hk
          rcases hk with rfl | rfl
          · obtain ⟨hg, hok1⟩ := alone_spec h1.1
            unfold wpOpIn
            simp only [ho]
            rw [if_pos (by simp [Region.wanted, hg])]
            exact eff_wp ⟨ds, none⟩ hok1 h.1 fun v w' hk => by
              rw [heldK_eq] at hk
              rw [put_act]
              exact ⟨fun _ => ⟨hk.1 h6, ih r _ _ w' (by rw [put_size]; exact hs) (hk.1 h6) h3 hk.2⟩, fun e => absurd e h6⟩
          · obtain ⟨hg, hok1⟩ := alone_spec h1.2
            unfold wpOpIn
            simp only [ho']
            rw [if_pos (by simp [Region.wanted, hg])]
            exact eff_wp ⟨ds, none⟩ hok1 h.2 fun v w' hk => by
              rw [planK_eq] at hk
              rw [put_act]
              exact ⟨fun hne => absurd h7 hne, fun _ => plan_sound ds hsel hQ m p _ _ w' (by rw [put_size]; exact hs) h4 hk⟩
    | last i p =>
      unfold heldOk at hok
      simp only [Bool.and_eq_true, decide_eq_true_eq] at hok
      obtain ⟨⟨⟨h1, h2⟩, h6⟩, h3⟩ := hok
      rw [heldF_last] at h
      cases ho : ops[i]? with
      | none => simp [ho] at h1
      | some o =>
        simp only [ho] at h h1
        refine ⟨fun h0 => (by rw [h2] at h0; cases h0), ?_⟩
        rw [h2]
        intro j hj
        rw [List.mem_singleton] at hj
        subst hj
        obtain ⟨hg, hok1⟩ := alone_spec h1
        unfold wpOpIn
        simp only [ho]
        rw [if_pos (by simp [Region.wanted, hg])]
        exact eff_wp ⟨ds, none⟩ hok1 h fun v w' hk => by
          rw [planK_eq] at hk
          rw [put_act]
          exact ⟨fun hne => absurd h6 hne, fun _ => plan_sound ds hsel hQ m p _ _ w' (by rw [put_size]; exact hs) h3 hk⟩
    | any G r =>
      unfold heldOk at hok
      simp only [Bool.and_eq_true] at hok
      obtain ⟨⟨h1, hG⟩, h2⟩ := hok
      obtain ⟨J, hJ, hst, hend⟩ := h
      refine ⟨fun h0 => (by rw [h0] at h1; cases h1), fun i hi => ?_⟩
      have h3 := List.all_eq_true.1 h2 i hi
      simp only [Bool.and_eq_true, decide_eq_true_eq] at h3
      obtain ⟨⟨⟨h4, h5⟩, h6⟩, h7⟩ := h3
      have hiG : i ∈ G := by simpa using h4
      cases ho : ops[i]? with
      | none => simp [ho] at h5
      | some o =>
        simp only [ho] at h5
        obtain ⟨hg, hok1⟩ := alone_spec h5
        have hdep : ∀ e ∈ o.after, Region.binds .any e = true → e.on ∉ G := fun e he hb hm => by
          obtain ⟨_, o', ho', hall⟩ := mem_ready.1 hi
          rw [ho] at ho'
          cases ho'
          have a1 := hall e he hb
          have a2 := List.all_eq_true.1 hG _ hm
          simp only [Bool.not_eq_true', Array.getD_eq_getD_getElem?] at a1 a2
          cases hs2 : s[e.on]? with
          | none => rw [hs2] at a2; simp at a2
          | some x => rw [hs2] at a1 a2; simp at a1 a2; rw [a1] at a2; cases a2
        unfold wpOpIn
        simp only [ho]
        rw [if_pos (by simp [Region.wanted, hg])]
        exact eff_wp ⟨ds, none⟩ hok1 (hst G i o f w hJ hiG ho hdep) fun v w' hk => by
          rw [put_act]
          refine ⟨fun _ => ⟨hk.1, ?_⟩, fun e => absurd e h6⟩
          refine ih (nextP G i r) _ _ w' (by rw [put_size]; exact hs) hk.1 h7 ?_
          unfold nextP
          split
          · rename_i hem
            have e : G.filter (· != i) = [] := by simpa using hem
            have := hk.2
            rw [e] at this
            exact hend _ _ (Nat.le_refl _) this
          · exact ⟨J, hk.2, hst, hend⟩
end

/-! A quicker test of a plan: a group's orders by the sets that they pass. -/
def stOf (s : Array Bool) (G H : List Nat) : Array Bool := G.foldl (fun s i => if H.contains i then s else s.setIfInBounds i true) s
theorem stOf_size (H : List Nat) : ∀ (G : List Nat) (s : Array Bool), (stOf s G H).size = s.size
  | [], s => rfl
  | i :: G, s => by
    show (stOf (if H.contains i then s else s.setIfInBounds i true) G H).size = _
    rw [stOf_size H G]; split <;> simp
theorem stOf_get (H : List Nat) : ∀ (G : List Nat) (s : Array Bool) (j : Nat), (stOf s G H)[j]? = if j ∈ G ∧ j ∉ H ∧ j < s.size then some true else s[j]?
  | [], s, j => by simp [stOf]
  | i :: G, s, j => by
    show (stOf (if H.contains i then s else s.setIfInBounds i true) G H)[j]? = _
    rw [stOf_get H G]
    by_cases hi : H.contains i = true
    · rw [if_pos hi]
      have hi' : i ∈ H := by simpa using hi
      by_cases hj : j = i
      · subst hj
        rw [if_neg (fun h => h.2.1 hi'), if_neg (fun h => h.2.1 hi')]
      · simp [hj]
    · rw [if_neg hi]
      have hi' : i ∉ H := by simpa using hi
      by_cases hj : j = i
      · subst hj
        by_cases hs : j < s.size
        · simp [hi', hs]
        · simp [hs]
      · simp [hj, Array.getElem?_setIfInBounds, Ne.symm hj]
theorem stOf_self (s : Array Bool) (G : List Nat) : stOf s G G = s := by
  apply Array.ext_getElem?
  intro j
  rw [stOf_get, if_neg]
  rintro ⟨h1, h2, _⟩; exact h2 h1
theorem stOf_set {s : Array Bool} {G H : List Nat} {i : Nat} (hi : i ∈ G) : stOf s G (H.filter (· != i)) = (stOf s G H).setIfInBounds i true := by
  apply Array.ext_getElem?
  intro j
  rw [stOf_get, Array.getElem?_setIfInBounds, stOf_get, stOf_size]
  by_cases hj : i = j
  · subst hj
    by_cases hs : i < s.size
    · simp [hi, hs]
    · simp [hs]
  · rw [if_neg hj]
    have : (j ∉ H.filter (· != i)) ↔ j ∉ H := by simp [List.mem_filter, Ne.symm hj]
    simp only [this]
def lvlOk (ops : Array Oper) (L : Nat) (s : Array Bool) (G : List Nat) : Nat → List (List Nat) → Bool
  | 0, l => l.all fun H => H.isEmpty
  | m + 1, l => (l.all fun H => decide (H.length = m + 1) && (!(Region.ready .any ops (stOf s G H)).isEmpty && H.all (fun j => !(stOf s G H).getD j true) && H.all (fun j => G.contains j) &&
      (Region.ready .any ops (stOf s G H)).all fun i => H.contains i && (match ops[i]? with | some o => aloneB o | none => false) && decide (i ≠ L))) &&
      lvlOk ops L s G m (l.flatMap fun H => (Region.ready .any ops (stOf s G H)).map fun i => H.filter (· != i)).eraseDups
theorem lvl_imp {ops : Array Oper} {L : Nat} {s : Array Bool} {G : List Nat} {r : HPlan} {m' : Nat} (hr : heldOk ops L m' r (stOf s G []) = true) : ∀ (m : Nat) (l : List (List Nat)), lvlOk ops L s G m l = true → ∀ H ∈ l, H ≠ [] → heldOk ops L (m + m') (.any H r) (stOf s G H) = true
  | 0, l, h, H, hH, hne => by
    have := List.all_eq_true.1 h H hH
    exact absurd (by simpa using this) hne
  | m + 1, l, h, H, hH, hne => by
    unfold lvlOk at h
    rw [Bool.and_eq_true] at h
    obtain ⟨h1, h2⟩ := h
    have h3 := List.all_eq_true.1 h1 H hH
    simp only [Bool.and_eq_true] at h3
    obtain ⟨_, ⟨⟨h4, h5⟩, h5'⟩, h6⟩ := h3
    have e : m + 1 + m' = (m + m') + 1 := by omega
    rw [e]
    unfold heldOk
    simp only [Bool.and_eq_true]
    refine ⟨⟨h4, h5⟩, List.all_eq_true.2 fun i hi => ?_⟩
    have h7 := List.all_eq_true.1 h6 i hi
    simp only [Bool.and_eq_true] at h7 ⊢
    refine ⟨h7, ?_⟩
    have hiG : i ∈ G := by
      have := List.all_eq_true.1 h5' i (by simpa using h7.1.1)
      simpa using this
    have hmem : H.filter (· != i) ∈ (l.flatMap fun H => (Region.ready .any ops (stOf s G H)).map fun i => H.filter (· != i)).eraseDups :=
      List.mem_eraseDups.2 (List.mem_flatMap.2 ⟨H, hH, List.mem_map.2 ⟨i, hi, rfl⟩⟩)
    rw [← stOf_set hiG]
    unfold nextP
    split
    · rename_i hem
      have e0 : H.filter (· != i) = [] := by simpa using hem
      rw [e0] at hmem ⊢
      cases m with
      | zero => rw [Nat.zero_add]; exact hr
      | succ m =>
        unfold lvlOk at h2
        rw [Bool.and_eq_true] at h2
        have := List.all_eq_true.1 h2.1 _ hmem
        simp at this
    · rename_i hem
      exact lvl_imp hr m _ h2 _ hmem (by simpa using hem)
def heldOkQ (ops : Array Oper) (L : Nat) : HPlan → Nat → Array Bool → Bool
  | .done, _, s => (Region.ready .any ops s).isEmpty
  | .take i r, m, s => decide (0 < m) && ((match ops[i]? with | some o => stillB o || loadB o || nilB o | none => false) && Region.free .any ops s i && (Region.ready .any ops s).contains i && waitsB ops L i && decide (i ≠ L) && heldOkQ ops L r (m - 1) (s.setIfInBounds i true))
  | .one i r, m, s => decide (0 < m) && ((match ops[i]? with | some o => aloneB o | none => false) && decide (Region.ready .any ops s = [i]) && (decide (i ≠ L) || (match r with | .done => true | _ => false)) && heldOkQ ops L r (m - 1) (s.setIfInBounds i true))
  | .two i r j r', m, s => decide (0 < m) && ((match ops[i]?, ops[j]? with | some o, some o' => aloneB o && aloneB o' | _, _ => false) && decide (Region.ready .any ops s = [i, j]) && decide (i ≠ L) && decide (j ≠ L) && heldOkQ ops L r (m - 1) (s.setIfInBounds i true) && heldOkQ ops L r' (m - 1) (s.setIfInBounds j true))
  | .twoL i r j p, m, s => decide (0 < m) && ((match ops[i]?, ops[j]? with | some o, some o' => aloneB o && aloneB o' | _, _ => false) && decide (Region.ready .any ops s = [i, j]) && decide (i ≠ L) && decide (j = L) && heldOkQ ops L r (m - 1) (s.setIfInBounds i true) && planOk ops (m - 1) p (s.setIfInBounds j true))
  | .any G r, m, s => decide (G.length ≤ m) && !G.isEmpty && lvlOk ops L s G G.length [G] && heldOkQ ops L r (m - G.length) (stOf s G [])
  | .last i p, m, s => decide (0 < m) && ((match ops[i]? with | some o => aloneB o | none => false) && decide (Region.ready .any ops s = [i]) && decide (i = L) && planOk ops (m - 1) p (s.setIfInBounds i true))
theorem heldOkQ_imp {ops : Array Oper} {L : Nat} : ∀ (p : HPlan) (m : Nat) (s : Array Bool), heldOkQ ops L p m s = true → heldOk ops L m p s = true
  | .done, m, s, h => by cases m <;> exact h
  | .take i r, m, s, h => by
    unfold heldOkQ at h
    rw [Bool.and_eq_true] at h
    obtain ⟨h0, h⟩ := h
    obtain ⟨k, rfl⟩ : ∃ k, m = k + 1 := ⟨m - 1, by have := of_decide_eq_true h0; omega⟩
    rw [Bool.and_eq_true] at h
    unfold heldOk
    rw [Bool.and_eq_true]
    exact ⟨h.1, heldOkQ_imp r k _ h.2⟩
  | .one i r, m, s, h => by
    unfold heldOkQ at h
    rw [Bool.and_eq_true] at h
    obtain ⟨h0, h⟩ := h
    obtain ⟨k, rfl⟩ : ∃ k, m = k + 1 := ⟨m - 1, by have := of_decide_eq_true h0; omega⟩
    rw [Bool.and_eq_true] at h
    unfold heldOk
    rw [Bool.and_eq_true]
    exact ⟨h.1, heldOkQ_imp r k _ h.2⟩
  | .two i r j r', m, s, h => by
    unfold heldOkQ at h
    rw [Bool.and_eq_true] at h
    obtain ⟨h0, h⟩ := h
    obtain ⟨k, rfl⟩ : ∃ k, m = k + 1 := ⟨m - 1, by have := of_decide_eq_true h0; omega⟩
    rw [Bool.and_eq_true, Bool.and_eq_true] at h
    unfold heldOk
    rw [Bool.and_eq_true, Bool.and_eq_true]
    exact ⟨⟨h.1.1, heldOkQ_imp r k _ h.1.2⟩, heldOkQ_imp r' k _ h.2⟩
  | .twoL i r j p, m, s, h => by
    unfold heldOkQ at h
    rw [Bool.and_eq_true] at h
    obtain ⟨h0, h⟩ := h
    obtain ⟨k, rfl⟩ : ∃ k, m = k + 1 := ⟨m - 1, by have := of_decide_eq_true h0; omega⟩
    rw [Bool.and_eq_true, Bool.and_eq_true] at h
    unfold heldOk
    rw [Bool.and_eq_true, Bool.and_eq_true]
    exact ⟨⟨h.1.1, heldOkQ_imp r k _ h.1.2⟩, h.2⟩
  | .any G r, m, s, h => by
    unfold heldOkQ at h
    simp only [Bool.and_eq_true] at h
    obtain ⟨⟨⟨h0, h1⟩, h2⟩, h3⟩ := h
    have h0 := of_decide_eq_true h0
    have h4 := lvl_imp (heldOkQ_imp r _ _ h3) G.length [G] h2 G (by simp) (by simpa using h1)
    rw [stOf_self] at h4
    rwa [show G.length + (m - G.length) = m by omega] at h4
  | .last i p, m, s, h => by
    unfold heldOkQ at h
    rw [Bool.and_eq_true] at h
    obtain ⟨h0, h⟩ := h
    obtain ⟨k, rfl⟩ : ∃ k, m = k + 1 := ⟨m - 1, by have := of_decide_eq_true h0; omega⟩
    unfold heldOk
    exact h

def noDeferB (ops : Array Oper) : Bool := ops.toList.all fun o => match o.op with | .defer _ => false | _ => true
/-- A REGION BY A PLAN, WHAT NOBODY WRITES FIRST: X the blocks that may be written. -/
theorem WP_held {ds : List Deferred} {P : Program} {w : World} {id n : Nat} {ops : Array Oper} {Q : Exit → Array Value → World → Prop} {f : Array Value} (L : Nat) (X : Nat → Prop) (p : HPlan) (hm : P.follows .mixedOrders = true)
    (hok : (Region.noSelect ops && (noDeferB ops && heldOkQ ops L p ops.size (Array.replicate ops.size false))) = true) (hs : f.size = n)
    (h : Now (heldF P ops L (Agree X w) (fun b => b < w.heap.size ∧ ¬ X b) (Q .normal) p f (w.drewN 1))) : WP ⟨ds, none⟩ P n (.region id ops true) Q f w := by
  simp only [Bool.and_eq_true] at hok
  have hnd : ∀ (j : Nat) (o : Oper) c, ops[j]? = some o → o.op ≠ .defer c := by
    intro j o c hj hc
    have := List.all_eq_true.1 hok.2.1 o (List.mem_of_getElem? (by rw [Array.getElem?_toList]; exact hj))
    rw [hc] at this; cases this
  refine wpIn_mono (F := (Ctx.mk ds none).F) (wpIn_region_any hm (wpAnyS_in (L := L) _ _ _ _ (held_sound (L := L) (P := P) ds (Q := Q .normal) (Q' := fun e a w => a.defers = ds ∧ a.tmps.size = n ∧ Q e a.tmps w) hok.1 hnd
    (fun w1 w2 h1 h2 b hb => (h2.block b hb.1 hb.2).trans (h1.block b hb.1 hb.2).symm) (fun f w hs hq => ⟨rfl, hs, hq⟩) ops.size p _ f _ hs ((Agree.refl X w).drewN 1) (heldOkQ_imp _ _ _ hok.2.2) h))) ?_
  rintro e a w ⟨_, hq⟩
  exact hq
end Go.VC
