/- Regions that draw their order and hold calls, or end in stores: each operation once, in the text's order. -/
import Derived.Test.YtelfmhiaafkimaaVC
import Derived.StillTail
import Derived.Below
namespace Go.VC
open Go Go.RowKit
set_option linter.unusedVariables false
set_option linter.unusedSimpArgs false

section
variable {P : Program} {ops : Array Oper} {md : Region.Mode} {C : World → Prop}

/-! ### A quiet head in whatever order, then a tail in its one order -/
def headQ (P : Program) (md : Region.Mode) (ops : Array Oper) (C : World → Prop) (n : Nat) (L : Array Bool → Act → Prop) : Nat → Array Bool → Act → Prop
  | 0, s, a => L s a
  | m + 1, s, a => Region.ready md ops s ≠ [] ∧ ∀ i ∈ Region.ready md ops s, i < n ∧ qOp P ops C i (headQ P md ops C n L m (s.setIfInBounds i true)) a

theorem any_of_headQ (X : Ctx) (hd : ∀ (i : Nat) (o : Oper) (c : Call), ops[i]? = some o → o.op ≠ .defer c) {n g : Nat} {L : Array Bool → Act → Prop} {Q : Exit → Act → World → Prop} (hL : ∀ s a w, C w → L s a → wpAnyIn X.F 0 P md ops Q g s a w) :
    ∀ (m : Nat) (s : Array Bool) (a : Act) (w : World), C w → headQ P md ops C n L m s a → wpAnyIn X.F 0 P md ops Q (m + g) s a w
  | 0, s, a, w, hw, h => by rw [Nat.zero_add]; exact hL _ _ _ hw h
  | m + 1, s, a, w, hw, h => by
    rw [Nat.add_right_comm]
    exact ⟨fun h0 => absurd h0 h.1, fun i hi => wpOp_lift (md := md) X hd (wpOp_of_qOp hw (fun a' w' hw' h' => any_of_headQ X hd hL m _ a' w' hw' h') (h.2 i hi).2)⟩

theorem anyIn_of_seq (X : Ctx) {Q : Exit → Act → World → Prop} : ∀ (l : List Oper) (k : Nat) (s : Array Bool) (a : Act) (w : World), (∀ j, l[j]? = ops[k + j]?) →
    Region.seqB md ops l.length k s = true → wpListIn X.F 0 P ops Q l a w → wpAnyIn X.F 0 P md ops Q l.length s a w
  | [], k, s, a, w, _, hB, h => ⟨by simpa [Region.seqB] using hB, h⟩
  | o :: l, k, s, a, w, hl, hB, h => by
    have h0 : ops[k]? = some o := by simpa using (hl 0).symm
    simp only [List.length_cons, Region.seqB, Bool.and_eq_true, decide_eq_true_eq] at hB
    refine ⟨fun h1 => (by rw [hB.1] at h1; cases h1), fun i hi => ?_⟩
    rw [hB.1, List.mem_singleton] at hi
    subst hi
    have hw : wpOpIn X.F 0 P ops Q i (wpListIn X.F 0 P ops Q l) a w := by unfold wpOpIn; simp only [h0]; exact h
    exact wpOpIn_mono (fun a' w' h' => anyIn_of_seq X l (i + 1) _ a' w' (fun j => by have := hl (j + 1); simpa [Nat.add_assoc, Nat.add_comm 1 j] using this) hB.2 h') hw

theorem headQ_first {n i : Nat} {oi : Oper} {v : Value} {L : Array Bool → Act → Prop} (hi : ops[i]? = some oi) (hsel : ∀ (j : Nat) (o : Oper) cs b, ops[j]? = some o → o.op ≠ .select cs b)
    (hs : Region.sinkB md ops n = true) (hc : Region.chainB md ops n = true) (hn : n < ops.size) (hin : i < n) (hdone : ∀ s a, L s a → ∀ j ∈ Region.ready md ops s, n ≤ j) :
    ∀ (m : Nat) (s : Array Bool) (a : Act), HeadInv md ops n s →
      (∀ j oj, ops[j]? = some oj → j ≠ i → s.getD j true = false → (∀ e ∈ oj.after, Region.binds md e = true → e.on ≠ i) → oi.apart ops oj = true) →
      i ∈ Region.ready md ops s → YieldsIn P ops C oi v a → headQ P md ops C n L m (s.setIfInBounds i true) (a.put oi.dst v) → headQ P md ops C n L (m + 1) s a
  | m, s, a, inv, hfree, hr, hy, H => by
    have hun := (mem_ready.1 hr).1
    refine ⟨fun h => (by rw [h] at hr; cases hr), fun j hj => ?_⟩
    have hjn : j < n := Classical.byContradiction fun h => tail_waits hs hc hn inv _ i rfl hin hun j (by omega) hj
    refine ⟨hjn, ?_⟩
    by_cases hji : j = i
    · subst hji; exact hy.qOp hi H
    cases m with
    | zero => exact absurd (hdone _ _ H j (ready_mono hj hji)) (by omega)
    | succ m =>
      obtain ⟨hjun, oj, hoj, hall⟩ := mem_ready.1 hj
      have hnot : ∀ e ∈ oj.after, Region.binds md e = true → e.on ≠ i := fun e he hb heq => by
        have h1 := hall e he hb
        rw [heq, getD_both hun] at h1
        cases h1
      have h2 := qOp_put hoj (hfree j oj hoj hji hjun hnot) (fun cs b => hsel i oi cs b hi) (fun cs b => hsel j oj cs b hoj) hy (H.2 j (ready_mono hj hji)).2
      refine qOp_mono (fun a' h3 => headQ_first hi hsel hs hc hn hin hdone m (s.setIfInBounds j true) a' (inv.set hj hjn) (fun k ok hk hki hku hno => hfree k ok hk hki ?_ hno) (ready_mono hr (Ne.symm hji)) h3.1 ?_) h2
      · by_cases hjk : j = k
        · subst hjk; exact hjun
        · rwa [getD_set_ne true hjk] at hku
      · rw [Array.setIfInBounds_comm _ _ hji]
        exact h3.2

theorem headQ_text {n g : Nat} {L : Act → Prop} (hsel : Region.noSelect ops = true) (hs : Region.sinkB md ops n = true) (hc : Region.chainB md ops n = true) (hn : n < ops.size) :
    ∀ (l : List Oper) (k : Nat) (s : Array Bool) (a : Act), (∀ j, j < l.length → l[j]? = ops[k + j]?) → k + l.length = n → HeadInv md ops n s → Region.lexHead md ops g l.length k s = true →
    wpQuiet P ops C L l a → headQ P md ops C n (fun s' a' => Region.seqB md ops g n s' = true ∧ L a') l.length s a
  | [], k, s, a, _, hk, _, hB, h => by
    obtain rfl : k = n := by simpa using hk
    exact ⟨by simpa [Region.lexHead] using hB, h⟩
  | o :: l, k, s, a, hl, hk, inv, hB, h => by
    have h0 : ops[k]? = some o := by simpa using (hl 0 (by simp)).symm
    simp only [List.length_cons, Region.lexHead, Bool.and_eq_true] at hB hk
    obtain ⟨⟨hr, hf⟩, hB'⟩ := hB
    have hr' : k ∈ Region.ready md ops s := by simpa using hr
    have hst : qOp P ops C k (wpQuiet P ops C L l) a := by unfold qOp; simp only [h0]; exact h
    obtain ⟨v, hy, hK⟩ := yieldsIn_of_qOp h0 hst
    exact headQ_first h0 (Region.noSelect_spec hsel) hs hc hn (by omega) (fun s' a' hL => seqB_ready hL.1) l.length s a inv (Region.free_spec h0 hf) hr' hy
      (headQ_text hsel hs hc hn l (k + 1) _ _ (fun j hj => by have := hl (j + 1) (by simp; omega); simpa [Nat.add_assoc, Nat.add_comm 1 j] using this) (by omega) (inv.set hr' (by omega)) hB' hK)

theorem region_head_tail (X : Ctx) {id : Nat} {Q : Exit → Act → World → Prop} {a : Act} {w : World} {l : List Oper} (n : Nat) (hm : P.follows .mixedOrders = true) (hB : Region.lexTailB .any l.toArray n = true) (hd : ∀ o ∈ l, ∀ c, o.op ≠ .defer c) (hC : C { w with drawn := w.drawn + 1 })
    (h : wpQuiet P l.toArray C (fun a' => ∀ w', C w' → wpListIn X.F 0 P l.toArray Q (l.drop n) a' w') (l.take n) a) : (Code.region id l.toArray true).wpIn X.F 0 P Q a w := by
  simp only [Region.lexTailB, Bool.and_eq_true, decide_eq_true_eq] at hB
  obtain ⟨⟨⟨⟨hsel, hn⟩, hs⟩, hc⟩, hlex⟩ := hB
  have hn' : n < l.length := by simpa using hn
  have htl : (l.take n).length = n := by simp; omega
  have hdl : (l.drop n).length = l.toArray.size - n := by simp
  have inv0 : HeadInv .any l.toArray n (Array.replicate l.toArray.size false) :=
    ⟨by simp, fun j oj _ hl => (by rw [getD_replicate_false] at hl; cases hl), fun t _ ht => getD_in (by simpa using ht) (getD_replicate_false _ _)⟩
  have H := headQ_text (md := .any) (g := l.toArray.size - n) hsel hs hc hn (l.take n) 0 _ a (fun j hj => by
    rw [htl] at hj
    simp [hj]) (by simpa using htl) inv0 (by rw [htl]; exact hlex) h
  refine wpIn_region_any hm ?_
  have := any_of_headQ (P := P) X (nd_of_list hd) (C := C) (Q := Q) (g := l.toArray.size - n) (fun s a' w' hw' hL => by
    have := anyIn_of_seq (md := .any) X (Q := Q) (l.drop n) n s a' w' (fun j => by simp [List.getElem?_drop]) (by rw [hdl]; exact hL.1) (hL.2 w' hw')
    rwa [hdl] at this) _ _ _ _ hC H
  rw [htl, show n + (l.toArray.size - n) = l.toArray.size by omega] at this
  exact this
end

/-! ### Reading in a later world -/
section
variable {P : Program} {w w' : World}
theorem rdK_cell {a : Addr} (h : w'.cell? a = w.cell? a) (k : K) : rdK w' a k = rdK w a k := by
  cases k <;> simp [rdK, rdI, rdB, rdP, rdSA, rdSN, rdSC, rdM, rdV, h]
theorem cell_below {a : Addr} {v : Value} (hB : Below w.heap.size w w') (h : w.cell? a = some v) : w'.cell? a = w.cell? a := hB.cell (World.block_lt_of_cell? w a h)
theorem okKs_below (hB : Below w.heap.size w w') (a : Addr) : ∀ (ks : List K) (i : Nat), okKs w a i ks → okKs w' a i ks ∧ rdKs w' a i ks = rdKs w a i ks
  | [], _, _ => ⟨trivial, rfl⟩
  | k :: ks, i, h => by
    obtain ⟨h1, h2⟩ := h
    have hc := cell_below hB h1
    have hk := rdK_cell hc k
    obtain ⟨h3, h4⟩ := okKs_below hB a ks (i + 1) h2
    refine ⟨⟨by rw [hc, hk]; exact h1, h3⟩, ?_⟩
    simp only [rdKs, hk, h4]
theorem ldv_below (hB : Below w.heap.size w w') {t : TypeId} {x : Value} (h : (ldv P w t x).c) : (ldv P w' t x).c ∧ (ldv P w' t x).v = (ldv P w t x).v := by
  unfold ldv at h ⊢
  split at h
  · rename_i a
    split at h
    · rename_i hg
      rw [if_pos hg, if_pos hg]
      obtain ⟨h1, h2⟩ := h
      obtain ⟨h3, h4⟩ := okKs_below hB a _ _ h2
      exact ⟨⟨h1, h3⟩, by simp only [h4]⟩
    · rename_i hg
      rw [if_neg hg, if_neg hg]
      obtain ⟨h1, h2⟩ := h
      have hc := cell_below hB h2
      exact ⟨⟨h1, by rw [hc, rdK_cell hc]; exact h2⟩, rdK_cell hc _⟩
  · exact h.elim
theorem map_below (hB : Below w.heap.size w w') {b : Nat} (hb : mapB w b = true) : mapB w' b = true ∧ mapN w' b = mapN w b := by
  have hlt : b < w.heap.size := by
    unfold mapB at hb
    rcases Nat.lt_or_ge b w.heap.size with h | h
    · exact h
    · rw [Array.getElem?_eq_none h] at hb; cases hb
  have e := hB.block b hlt
  unfold mapB mapN at *
  rw [e]; exact ⟨hb, rfl⟩
theorem pv_below (hB : Below w.heap.size w w') {f : Array Value} {o : Oper} (hl : ¬ ∃ t a, o.op = .load t a) (h : (pv P w f o).c) : (pv P w' f o).c ∧ (pv P w' f o).v = (pv P w f o).v := by
  by_cases hc : ∃ c, o.op = .call c
  · obtain ⟨c, hc⟩ := hc
    unfold pv at h ⊢
    simp only [hc] at h ⊢
    by_cases hm : ∃ b t, c.callee = .builtin .len ∧ c.args.toList.map (evo f) = [.map (some b)] ∧ c.argTypes.toList = [t]
    · obtain ⟨b, t, h1, h2, h3⟩ := hm
      simp only [h1, h2, h3] at h ⊢
      split at h
      · have h : mapB w b = true := h
        obtain ⟨e1, e2⟩ := map_below hB h
        exact ⟨e1, by simp only [e2]⟩
      · exact h.elim
    · revert h
      split <;> first | exact fun h => ⟨h, rfl⟩ | skip
      rename_i h1 h2 h3
      exact absurd ⟨_, _, h1, h2, h3⟩ hm
  · have e : pv P w' f o = pv P w f o := by
      unfold pv
      split <;> first | rfl | (rename_i ho; exact (hc ⟨_, ho⟩).elim) | (rename_i ho; exact (hl ⟨_, _, ho⟩).elim)
    rw [e]; exact ⟨h, rfl⟩
theorem opP_below (hB : Below w.heap.size w w') {f : Array Value} {o : Oper} (h : (opP P w f o).c) : (opP P w' f o).c ∧ (opP P w' f o).v = (opP P w f o).v := by
  by_cases hl : ∃ t a, o.op = .load t a
  · obtain ⟨t, a, ho⟩ := hl
    have e : ∀ w, opP P w f o = ldv P w t (evo f a) := by intro w; unfold opP; rw [ho]; simp only; unfold pv; rw [ho]
    rw [e] at h ⊢; rw [e]
    exact ldv_below hB h
  · unfold opP at h ⊢
    split at h
    · exact ⟨h, rfl⟩
    · exact pv_below hB hl h
end

/-! ### The formula -/
/-- A call within a region that draws: one value, in whatever world that has what w has. -/
def CALLQ (P : Program) (g : FuncId) (args : Array Value) (w : World) (G : Prop) (K' : Value → Prop) : Tied K' :=
  ∃ v, (G → ∀ wr, Below w.heap.size w wr → Calls P g args wr fun e w' => e = .returned v ∧ Below wr.heap.size wr w') ∧ K' v

theorem CALLQ_of {P : Program} {g : FuncId} {args : Array Value} {w : World} {G : Prop} {K' : Value → Prop} {v : Value} (h : G → ∀ wr, Below w.heap.size w wr → Calls P g args wr fun e w' => e = .returned v ∧ Below wr.heap.size wr w') (hk : Now (K' v)) : CALLQ P g args w G K' := ⟨v, h, hk⟩

def goCall (f : Array Value) (o : Oper) : Option (FuncId × Array Value) := match o.op with | .call c => callee f c | _ => none

/-- The lexical walk of a region (or its head) of reads and calls. -/
def regC (P : Program) (w : World) (ds : List (Option Tmp)) (Q : Array Value → Ch → Prop) : List Oper → Ch → Array Value → Tied Q
  | [], ch, f => Q f ch
  | o :: rest, ch, f =>
    match o.dst with
    | none => False
    | some d =>
      match goCall f o with
      | some (g, args) => callB P g = true ∧ CALLQ P g args w (holds f (chainOf ds ch o.guard)) (fun v => regC P w ds Q rest (chStep ch d (chainOf ds ch o.guard)) (f.setIfInBounds d v))
      | none => (holds f (chainOf ds ch o.guard) → (opP P w f o).c) ∧ regC P w ds Q rest (chStep ch d (chainOf ds ch o.guard)) (f.setIfInBounds d (opP P w f o).v)
def regCK (P : Program) (w : World) (ds : List (Option Tmp)) (Q : Array Value → Ch → Prop) (rest : List Oper) (ch : Ch) (d : Nat) (f : Array Value) (v : Value) : Tied (Q, rest) :=
  regC P w ds Q rest ch (f.setIfInBounds d v)
section
variable {P : Program} {w : World} {ds : List (Option Tmp)} {Q : Array Value → Ch → Prop}
theorem regC_nil {ch : Ch} {f : Array Value} : regC P w ds Q [] ch f = Q f ch := rfl
theorem regC_cons {o : Oper} {rest : List Oper} {ch : Ch} {f : Array Value} : regC P w ds Q (o :: rest) ch f = 
    match o.dst with
    | none => False
    | some d =>
      match goCall f o with
      | some (g, args) => callB P g = true ∧ CALLQ P g args w (holds f (chainOf ds ch o.guard)) (regCK P w ds Q rest (chStep ch d (chainOf ds ch o.guard)) d f)
      | none => (holds f (chainOf ds ch o.guard) → (opP P w f o).c) ∧ regC P w ds Q rest (chStep ch d (chainOf ds ch o.guard)) (f.setIfInBounds d (opP P w f o).v) := rfl
theorem regCK_eq {rest : List Oper} {ch : Ch} {d : Nat} {f : Array Value} {v : Value} : regCK P w ds Q rest ch d f v = regC P w ds Q rest ch (f.setIfInBounds d v) := rfl

theorem regC_size {n : Nat} {Q2 : Array Value → Ch → Prop} (hQ : ∀ f' ch, f'.size = n → Q f' ch → Q2 f' ch) : ∀ (l : List Oper) (ch : Ch) (f : Array Value), f.size = n → regC P w ds Q l ch f → regC P w ds Q2 l ch f
  | [], ch, f, hf, h => hQ f ch hf h
  | o :: l, ch, f, hf, h => by
    unfold regC at h ⊢
    split
    · rename_i hd; simp [hd] at h
    · rename_i d hd
      simp only [hd] at h
      split
      · rename_i g args hg
        simp only [hg] at h
        obtain ⟨h1, v, h2, h3⟩ := h
        exact ⟨h1, v, h2, regC_size hQ l _ _ (by simpa using hf) h3⟩
      · rename_i hg
        simp only [hg] at h
        exact ⟨h.1, regC_size hQ l _ _ (by simpa using hf) h.2⟩

theorem regC_quiet (ds0 : List Deferred) {ops : Array Oper} (hds : ∀ j : Nat, ds[j]? = (ops[j]?).map (·.dst)) {Q' : Act → Prop} (hQ : ∀ f ch r, Inv r f ch → Q f ch → Q' ⟨r, ds0⟩) :
    ∀ (l : List Oper) (ch : Ch) (f r : Array Value), Inv r f ch → regOk ds f.size l ch = true → regC P w ds Q l ch f → wpQuiet P ops (fun w' => Below w.heap.size w w') Q' l ⟨r, ds0⟩
  | [], ch, f, r, I, _, h => hQ f ch r I h
  | o :: rest, ch, f, r, I, hok, h => by
    unfold regC at h
    cases hd : o.dst with
    | none => simp [hd] at h
    | some d =>
      simp only [hd] at h
      obtain ⟨hlt, hop, hno, hno0, hgd, hrest⟩ := regOk_cons hd hok
      have hw := I.wanted (ops := ops) (o := o) hds hgd
      have hc0 : chainOf ds ch o.guard = [] ∨ ∃ d' b, chainOf ds ch o.guard = (d', b) :: look ch d' := by
        unfold chainOf
        cases hg : o.guard with
        | none => exact .inl rfl
        | some x =>
          obtain ⟨j, b⟩ := x
          rw [hg] at hgd
          obtain ⟨d', hd'⟩ := hgd
          exact .inr ⟨d', b, by simp [hd']⟩
      generalize hcc : chainOf ds ch o.guard = c0 at *
      have next : ∀ (v : Value), regC P w ds Q rest (chStep ch d c0) (f.setIfInBounds d v) → (presentR r c0 → wpQuiet P ops (fun w' => Below w.heap.size w w') Q' rest ⟨r.setIfInBounds d v, ds0⟩) ∧
          (¬ presentR r c0 → wpQuiet P ops (fun w' => Below w.heap.size w w') Q' rest ⟨r.setIfInBounds d undef, ds0⟩) := fun v hk =>
        ⟨fun hp => regC_quiet ds0 hds hQ rest _ _ _ (I.step hlt hno hno0 hc0 (fun _ => rfl) (fun hn => absurd hp hn)) (by simpa using hrest) hk,
         fun hp => regC_quiet ds0 hds hQ rest _ _ _ (I.step hlt hno hno0 hc0 (fun h => absurd h hp) (fun _ => rfl)) (by simpa using hrest) hk⟩
      split at h
      · rename_i g args hg
        obtain ⟨h1, v, h2, h3⟩ := h
        by_cases hp : presentR r c0
        · unfold wpQuiet
          rw [if_pos (hw.2 hp)]
          refine ⟨v, fun w' hw' => ?_, by rw [hd]; exact (next v h3).1 hp⟩
          unfold goCall at hg
          split at hg
          case h_2 => cases hg
          rename_i c ho
          unfold callee at hg
          split at hg
          case h_2 => cases hg
          rename_i x hx
          split at hg
          case h_2 => cases hg
          rename_i g' first captured hf
          simp only [Option.some.injEq, Prod.mk.injEq] at hg
          obtain ⟨rfl, rfl⟩ := hg
          have hro : readsOk ch c0 o.op.operands.toList = true := by
            unfold opOk at hop
            rw [ho] at hop ⊢
            exact hop
          have hex : execOp (Act.mk r ds0).eval o = execOp (Act.mk f ds0).eval o := by
            refine execOp_congr o (by rw [ho]; intro cs b h; cases h) fun x hx => ?_
            rw [← evo_eq, ← evo_eq]
            have := List.all_eq_true.1 hro x (by simpa using hx)
            exact I.reads hp (by cases x <;> simp_all [tmpOf])
          have hr : (execOp (Act.mk f ds0).eval o).run P w' = .ok (.enter g' (first ++ c.args.map (evo f) ++ captured)) w' := by
            rw [← evo_eq]
            simp only [execOp, ho, resolve, hx, hf, Deferred.ofValue, invoke, Sem.run_bind, Sem.run_pure, Result.andThen_ok, run_callFunc h1]
          unfold Oper.quietAt
          rw [hex, hr]
          exact ⟨rfl, (h2 (I.holds_of c0 hc0 hp) w' hw').mono fun e w'' ⟨he, hb⟩ => ⟨he, hw'.trans (hb.mono hw'.size)⟩⟩
        · unfold wpQuiet
          rw [if_neg (fun h => hp (hw.1 h)), hd]
          exact (next v h3).2 hp
      · by_cases hp : presentR r c0
        · have hcond := h.1 (I.holds_of c0 hc0 hp)
          unfold wpQuiet
          rw [if_pos (hw.2 hp)]
          refine ⟨(opP P w f o).v, fun w' hw' => ?_, by rw [hd]; exact (next _ h.2).1 hp⟩
          obtain ⟨hc', hv'⟩ := opP_below hw' hcond
          unfold Oper.quietAt
          rw [run_opP (P := P) (w := w') I hop hp hc' ds0, hv']
          exact ⟨rfl, rfl⟩
        · unfold wpQuiet
          rw [if_neg (fun h => hp (hw.1 h)), hd]
          exact (next _ h.2).2 hp
end

/-- What follows a region of reads and calls. -/
def callQ (w : World) (Q : Array Value → World → Prop) (f' : Array Value) (ch : Ch) : Tied Q := ∀ (u : Nat → Value) w', Below w.heap.size w w' → Q (junk u ch f') w'
/-- What follows the head of a region: its tail. -/
def tailQ (P : Program) (w : World) (ds : List (Option Tmp)) (l : List Oper) (Q : Array Value → World → Prop) (f' : Array Value) (ch : Ch) : Tied (Q, l) := ∀ (u : Nat → Value) w', Below w.heap.size w w' → seq P ds Q l (junk u ch f') w'

theorem drew_below (w : World) : Below w.heap.size w { w with drawn := w.drawn + 1 } := below_drewN (Below.refl _ w) 1

/-- A REGION OF READS AND CALLS. -/
theorem WP_calls {X : Ctx} {P : Program} {w : World} {id n : Nat} {l : List Oper} {Q : Exit → Array Value → World → Prop} {f : Array Value} (hm : P.follows .mixedOrders = true) (hB : Region.lexB .any l.toArray = true)
    (hok : regOk (l.map (·.dst)) n l [] = true) (hs : f.size = n) (h : Now (regC P w (l.map (·.dst)) (callQ w (Q .normal)) l [] f)) : WP X P n (.region id l.toArray true) Q f w := by
  subst hs
  have h1 : regC P w (l.map (·.dst)) (callQ w (Q .normal)) l [] f := h
  refine wpIn_quiet X (C := fun w' => Below w.heap.size w w') hm hB (regOk_nd hok) (drew_below w) ?_
  refine regC_quiet X.ds (w := w) (ds := l.map (·.dst)) (Q := fun f' ch => f'.size = f.size ∧ callQ w (Q .normal) f' ch) (by simp) (fun f' ch r I hq w' hw' => ?_) l [] f f (Inv.start f) hok (regC_size (fun f' ch hf hq => ⟨hf, hq⟩) _ _ _ rfl h1)
  have := hq.2 (fun t => r.getD t undef) w' hw'
  rw [I.junk] at this
  exact ⟨rfl, I.size.trans hq.1, this⟩

/-- A REGION OF READS AND CALLS WITH A TAIL IN ONE ORDER. -/
theorem WP_tail {X : Ctx} {P : Program} {w : World} {id n : Nat} {l : List Oper} {Q : Exit → Array Value → World → Prop} {f : Array Value} (N : Nat) (hm : P.follows .mixedOrders = true) (hB : Region.lexTailB .any l.toArray N = true)
    (hok : regOk (l.map (·.dst)) n (l.take N) [] = true) (hok2 : ((l.drop N).all fun o => opOk [] [] o) = true) (hs : f.size = n)
    (h : Now (regC P w (l.map (·.dst)) (tailQ P w (l.map (·.dst)) (l.drop N) (Q .normal)) (l.take N) [] f)) : WP X P n (.region id l.toArray true) Q f w := by
  subst hs
  have h1 : regC P w (l.map (·.dst)) (tailQ P w (l.map (·.dst)) (l.drop N) (Q .normal)) (l.take N) [] f := h
  refine region_head_tail X (C := fun w' => Below w.heap.size w w') N hm hB (fun o ho c => ?_) (drew_below w) ?_
  · rw [← List.take_append_drop N l] at ho
    rcases List.mem_append.1 ho with ho | ho
    · exact regOk_nd hok o ho c
    · exact opOk_nd (List.all_eq_true.1 hok2 o ho) c
  refine regC_quiet X.ds (w := w) (ds := l.map (·.dst)) (Q := fun f' ch => f'.size = f.size ∧ tailQ P w (l.map (·.dst)) (l.drop N) (Q .normal) f' ch) (by simp) (fun f' ch r I hq w' hw' => ?_) (l.take N) [] f f (Inv.start f) hok (regC_size (fun f' ch hf hq => ⟨hf, hq⟩) _ _ _ rfl h1)
  have := hq.2 (fun t => r.getD t undef) w' hw'
  rw [I.junk] at this
  exact seq_wp X (dsl := l.map (·.dst)) (by simp) (fun f' w' hf' hq => ⟨rfl, hf', hq⟩) _ _ _ (I.size.trans hq.1) hok2 this
end Go.VC
