/- A region that draws its order, by a plan: what is taken first, what stands alone, where two may come. -/
import Derived.Test.YtelfmhiaafkimaaDraw
namespace Go.VC
open Go Go.RowKit
set_option linter.unusedVariables false
set_option linter.unusedSimpArgs false

inductive Plan where
  | done
  | take (i : Nat) (r : Plan)
  | one (i : Nat) (r : Plan)
  | two (i : Nat) (r : Plan) (j : Nat) (r' : Plan)

/-- An operation whose value hangs on the frame alone. -/
def stillB (o : Oper) : Bool := o.guard.isNone && opOk [] [] o && match o.op with
  | .move _ | .assign _ | .binOp .. | .unOp .. | .fieldAddr .. | .indexAddr .. | .slice .. | .convert .. | .field .. | .extract .. | .build .. => true
  | _ => false
def aloneB (o : Oper) : Bool := o.guard.isNone && opOk [] [] o

def planOk (ops : Array Oper) : Nat → Plan → Array Bool → Bool
  | _, .done, s => (Region.ready .any ops s).isEmpty
  | m + 1, .take i r, s => (match ops[i]? with | some o => stillB o | none => false) && Region.free .any ops s i && (Region.ready .any ops s).contains i && planOk ops m r (s.setIfInBounds i true)
  | m + 1, .one i r, s => (match ops[i]? with | some o => aloneB o | none => false) && decide (Region.ready .any ops s = [i]) && planOk ops m r (s.setIfInBounds i true)
  | m + 1, .two i r j r', s => (match ops[i]?, ops[j]? with | some o, some o' => aloneB o && aloneB o' | _, _ => false) && decide (Region.ready .any ops s = [i, j]) && planOk ops m r (s.setIfInBounds i true) && planOk ops m r' (s.setIfInBounds j true)
  | 0, _, _ => false

def planF (P : Program) (ops : Array Oper) (Q : Array Value → World → Prop) : Plan → Array Value → World → Tied Q
  | .done, f, w => Q f w
  | .take i r, f, w => match ops[i]? with
    | some o => (opP P w f o).c ∧ planF P ops Q r (put o.dst f (opP P w f o).v) w
    | none => False
  | .one i r, f, w => match ops[i]? with
    | some o => eff P o f w fun v w' => planF P ops Q r (put o.dst f v) w'
    | none => False
  | .two i r j r', f, w => match ops[i]?, ops[j]? with
    | some o, some o' => eff P o f w (fun v w' => planF P ops Q r (put o.dst f v) w') ∧ eff P o' f w (fun v w' => planF P ops Q r' (put o'.dst f v) w')
    | _, _ => False
def planK (P : Program) (ops : Array Oper) (Q : Array Value → World → Prop) (r : Plan) (d : Option Tmp) (f : Array Value) (v : Value) (w : World) : Tied (Q, r) := planF P ops Q r (put d f v) w
section
variable {P : Program} {ops : Array Oper} {Q : Array Value → World → Prop}
theorem planF_done {f : Array Value} {w : World} : planF P ops Q .done f w = Q f w := rfl
theorem planF_take {i : Nat} {r : Plan} {f : Array Value} {w : World} : planF P ops Q (.take i r) f w = match ops[i]? with
    | some o => (opP P w f o).c ∧ planF P ops Q r (put o.dst f (opP P w f o).v) w
    | none => False := rfl
theorem planF_one {i : Nat} {r : Plan} {f : Array Value} {w : World} : planF P ops Q (.one i r) f w = match ops[i]? with
    | some o => eff P o f w (planK P ops Q r o.dst f)
    | none => False := rfl
theorem planF_two {i j : Nat} {r r' : Plan} {f : Array Value} {w : World} : planF P ops Q (.two i r j r') f w = match ops[i]?, ops[j]? with
    | some o, some o' => eff P o f w (planK P ops Q r o.dst f) ∧ eff P o' f w (planK P ops Q r' o'.dst f)
    | _, _ => False := rfl
theorem planK_eq {r : Plan} {d : Option Tmp} {f : Array Value} {v : Value} {w : World} : planK P ops Q r d f v w = planF P ops Q r (put d f v) w := rfl

theorem still_alike {o : Oper} (h : stillB o = true) (f : Array Value) (w w' : World) : opP P w' f o = opP P w f o := by
  have hl : ∀ t a, o.op ≠ .load t a := by
    intro t a ho
    simp [stillB, ho] at h
  have hcc : ∀ c, o.op ≠ .call c := by
    intro c ho
    simp [stillB, ho] at h
  unfold opP
  split
  · rfl
  · unfold pv
    split <;> first | rfl | (rename_i ho; exact (hcc _ ho).elim) | (rename_i ho; exact (hl _ _ ho).elim)
theorem still_spec {o : Oper} (h : stillB o = true) : o.guard = none ∧ opOk [] [] o = true ∧ ∀ c, o.op ≠ .call c := by
  simp only [stillB, Bool.and_eq_true, Option.isNone_iff_eq_none] at h
  refine ⟨h.1.1, h.1.2, fun c ho => ?_⟩
  have := h.2
  simp [ho] at this
theorem alone_spec {o : Oper} (h : aloneB o = true) : o.guard = none ∧ opOk [] [] o = true := by
  simpa [aloneB, Bool.and_eq_true, Option.isNone_iff_eq_none] using h

def noPanic (Q : Exit → Act → World → Prop) : Exit → Act → World → Prop := fun e a w => (∀ c, e ≠ .panic c) ∧ Q e a w

theorem plan_sound (ds : List Deferred) {n : Nat} {Q' : Exit → Act → World → Prop} (hsel : Region.noSelect ops = true) (hQ : ∀ f w, f.size = n → Q f w → Q' .normal ⟨f, ds⟩ w) :
    ∀ (m : Nat) (p : Plan) (s : Array Bool) (f : Array Value) (w : World), f.size = n → planOk ops m p s = true → planF P ops Q p f w → wpAnyIn (Ctx.mk ds none).F 0 P .any ops (noPanic Q') m s ⟨f, ds⟩ w := by
  intro m
  have fin : ∀ (m : Nat) (s : Array Bool) (f : Array Value) (w : World), f.size = n → (Region.ready .any ops s).isEmpty = true → Q f w → wpAnyIn (Ctx.mk ds none).F 0 P .any ops (noPanic Q') m s ⟨f, ds⟩ w := fun m s f w hs hr hq =>
    wpAnyIn_done (by simpa using hr) ⟨fun c h => (by cases h), hQ f w hs hq⟩ m
  have stand : ∀ (m : Nat) (i : Nat) (r : Plan) (o : Oper) (s : Array Bool) (f : Array Value) (w : World), f.size = n → ops[i]? = some o → aloneB o = true →
      (∀ v w', planF P ops Q r (put o.dst f v) w' → wpAnyIn (Ctx.mk ds none).F 0 P .any ops (noPanic Q') m (s.setIfInBounds i true) ⟨put o.dst f v, ds⟩ w') →
      eff P o f w (fun v w' => planF P ops Q r (put o.dst f v) w') → wpOpIn (Ctx.mk ds none).F 0 P ops (noPanic Q') i (wpAnyIn (Ctx.mk ds none).F 0 P .any ops (noPanic Q') m (s.setIfInBounds i true)) ⟨f, ds⟩ w := by
    intro m i r o s f w hs ho ha ih he
    obtain ⟨hg, hok⟩ := alone_spec ha
    unfold wpOpIn
    simp only [ho]
    rw [if_pos (by simp [Region.wanted, hg])]
    exact eff_wp ⟨ds, none⟩ hok he fun v w' hk => by rw [put_act]; exact ih v w' hk
  induction m with
  | zero =>
    intro p s f w hs hok h
    cases p with
    | done => exact fin 0 s f w hs hok h
    | _ => simp [planOk] at hok
  | succ m ih =>
    intro p s f w hs hok h
    cases p with
    | done => exact fin (m + 1) s f w hs hok h
    | take i r =>
      unfold planOk at hok
      simp only [Bool.and_eq_true] at hok
      obtain ⟨⟨⟨h1, h2⟩, h3⟩, h4⟩ := hok
      rw [planF_take] at h
      cases ho : ops[i]? with
      | none => simp [ho] at h1
      | some o =>
        simp only [ho] at h h1
        obtain ⟨hg, hok1, hnc⟩ := still_spec h1
        refine wpAnyIn_take (oi := o) (v := (opP P w f o).v) rfl ho hsel h2 h3 (fun c a w hp => absurd rfl (hp.1 c)) ⟨.inl ⟨by simp [Region.wanted, hg], fun w' => ?_⟩, fun w' => ?_⟩ ?_
        · have hc : (opP P w' f o).c := by rw [still_alike h1 f w w']; exact h.1
          have := run_opP (P := P) (w := w') (Inv.start f) hok1 (c0 := []) (fun _ _ h => by cases h) hc ds
          rw [this, still_alike h1 f w w']
        · unfold Oper.about
          cases hop : o.op <;> first | rfl | exact absurd hop (hnc _)
        · rw [put_act]
          exact ih r _ _ w (by rw [put_size]; exact hs) h4 h.2
    | one i r =>
      unfold planOk at hok
      simp only [Bool.and_eq_true, decide_eq_true_eq] at hok
      obtain ⟨⟨h1, h2⟩, h3⟩ := hok
      rw [planF_one] at h
      cases ho : ops[i]? with
      | none => simp [ho] at h1
      | some o =>
        simp only [ho] at h h1
        refine wpAnyIn_all h2 (by simp) fun j hj => ?_
        rw [List.mem_singleton] at hj
        subst hj
        exact stand m j r o s f w hs ho h1 (fun v w' hk => ih r _ _ w' (by rw [put_size]; exact hs) h3 hk) h
    | two i r j r' =>
      unfold planOk at hok
      simp only [Bool.and_eq_true, decide_eq_true_eq] at hok
      obtain ⟨⟨⟨h1, h2⟩, h3⟩, h4⟩ := hok
      rw [planF_two] at h
      cases ho : ops[i]? with
      | none => simp [ho] at h1
      | some o =>
        cases ho' : ops[j]? with
        | none => simp [ho, ho'] at h1
        | some o' =>
          simp only [ho, ho', Bool.and_eq_true] at h h1
          refine wpAnyIn_all h2 (by simp) fun k hk => ?_
          simp only [List.mem_cons, List.not_mem_nil, or_false] at hk
          rcases hk with rfl | rfl
          · exact stand m k r o s f w hs ho h1.1 (fun v w' hk => ih r _ _ w' (by rw [put_size]; exact hs) h3 hk) h.1
          · exact stand m k r' o' s f w hs ho' h1.2 (fun v w' hk => ih r' _ _ w' (by rw [put_size]; exact hs) h4 hk) h.2
end

/-- A REGION BY A PLAN. -/
theorem WP_plan {ds : List Deferred} {P : Program} {w : World} {id n : Nat} {ops : Array Oper} {Q : Exit → Array Value → World → Prop} {f : Array Value} (p : Plan) (hm : P.follows .mixedOrders = true)
    (hok : (Region.noSelect ops && planOk ops ops.size p (Array.replicate ops.size false)) = true) (hs : f.size = n) (h : Now (planF P ops (Q .normal) p f (w.drewN 1))) : WP ⟨ds, none⟩ P n (.region id ops true) Q f w := by
  simp only [Bool.and_eq_true] at hok
  refine wpIn_mono (F := (Ctx.mk ds none).F) (wpIn_region_any hm (plan_sound (P := P) ds (Q := Q .normal) (Q' := fun e a w => a.defers = ds ∧ a.tmps.size = n ∧ Q e a.tmps w) hok.1 (fun f w hs hq => ⟨rfl, hs, hq⟩) ops.size p _ f _ hs hok.2 h)) ?_
  rintro e a w ⟨_, hq⟩
  exact hq
end Go.VC
