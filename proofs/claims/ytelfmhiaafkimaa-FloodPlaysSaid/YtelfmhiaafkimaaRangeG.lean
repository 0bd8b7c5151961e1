/- Ranges over a function whose rounds go by more than their number. Over any program. -/
import Derived.Test.YtelfmhiaafkimaaRange
namespace Go.VC
open Go Go.RowKit
set_option linter.unusedSimpArgs false
set_option linter.unusedVariables false
theorem yield_monoG {P : Program} {l : Nat} {vals : Array Value} {w : World} {R R' : Ending → World → Prop} (h : YieldAt Fence.wide 0 P l vals w R) (hr : ∀ e w', R e w' → R' e w') : YieldAt Fence.wide 0 P l vals w R' := by
  obtain ⟨fn, tmps, a, b, h1, h2⟩ := h
  exact ⟨fn, tmps, a, b, h1, h2.mono hr⟩
/-- An iterator's contract: its rounds lead from i to i' as E says, from i0 on, and end where Fi holds. -/
def IterG (P : Program) (gf : FuncId) (caps : List Value) {ι : Type} (i0 : ι) (E : ι → Array Value → ι → World → Prop) (Fi : ι → Prop) (Z : Nat → Nat → Prop) (Kp : Nat → Prop) (w : World) : Prop :=
  ∀ (l : Nat) (J Jx : ι → World → Prop) (W : World), Below w.heap.size w W →
    (∀ i A B, J i A → Agree (Z W.heap.size) A B → J i B) → (∀ i A B, Jx i A → Agree (Z W.heap.size) A B → Jx i B) → J i0 W →
    (∀ i vals i' W1, J i W1 → E i vals i' W1 → (∀ k, Z W.heap.size k → k < W1.heap.size) → YieldAt Fence.wide 0 P l vals W1 fun e W2 =>
      (e = .returned (.bool true) ∧ J i' W2 ∧ Agree (fun k => ¬ (Kp k ∨ Z W.heap.size k)) W1 W2) ∨ (e = .returned (.bool false) ∧ Jx i' W2)) →
    Calls P gf (.func (.yield l) #[] #[] :: caps).toArray W fun e W' => (∃ v, e = .returned v) ∧ ((∃ i, Fi i ∧ J i W') ∨ ∃ i, Jx i W')

/-- 'for .. := range g { .. }', not within another such loop's round. -/
theorem WPM_rangeG {P : Program} {w : World} (hm : P.follows .mixedOrders = true) {n : Nat} {g : Operand} {ps : Array Tmp} {assign body : Code} {Q : QM} {ds : List Deferred} {f : Array Value}
    {gf : FuncId} {caps : List Value} {ι : Type} {i0 : ι} {E : ι → Array Value → ι → World → Prop} {Fi : ι → Prop} {Z : Nat → Nat → Prop} {Kp : Nat → Prop} {w0 : World}
    (hit : IterG P gf caps i0 E Fi Z Kp w0) (hB0 : Below w0.heap.size w0 w) (hs : f.size = n) (hg : evo f g = .func (.func gf) #[] caps.toArray) (hgf : callB P gf = true)
    (hps : ∀ i vals i' W, E i vals i' W → vals.size = ps.size) (hoa : codeOk n assign = true) (hob : codeOk n body = true)
    (hZ : ∀ k, Z (w.heap.size + 2) k → k ≠ w.heap.size ∧ k ≠ w.heap.size + 1) (hKp : ¬ Kp (w.heap.size + 1))
    (I : ι → World → Prop) (Ix : Code → ι → World → Prop)
    (hI : ∀ i A B, I i A → Agree (fun k => k = w.heap.size + 1 ∨ Z (w.heap.size + 2) k) A B → I i B)
    (hIx : ∀ c i A B, Ix c i A → Agree (fun k => k = w.heap.size + 1 ∨ Z (w.heap.size + 2) k) A B → Ix c i B) (h0 : I i0 w)
    (hround : ∀ l i vals i' W1, I i W1 → E i vals i' W1 → (∀ k, Z (w.heap.size + 2) k → k < W1.heap.size) → w.heap.size + 2 ≤ W1.heap.size → (∃ r, W1.heap[w.heap.size + 1]? = some (.loop r)) →
      Now (vc ⟨[], some l⟩ P n assign (asgF l P n body (fun _ => I i') (fun c _ => Ix c i') (fun k => Kp k ∨ Z (w.heap.size + 2) k ∨ k = w.heap.size ∨ k = w.heap.size + 1) 0 (w.heap.size + 1) W1) (setAll f ps.toList vals.toList) W1))
    (hdone : ∀ i W, Fi i → I i W → W.heap[w.heap.size]? = some (.deferred (some [])) → Now (Q .normal (markOf w.heap.size :: ds) f W))
    (hstop : ∀ c i W, Ix c i W → W.heap[w.heap.size]? = some (.deferred (some [])) → WPM P n c Q (markOf w.heap.size :: ds) f W) :
    WPM P n (.rangeFunc g ps assign body) Q ds f w := by
  unfold WPM
  refine wpIn_rangeFunc ?_
  intro fn hfn
  obtain ⟨rec, hrec⟩ : ∃ rec : LoopState → Option Code → Loop, rec = fun st pe => { state := st, pending := pe, fn, tmps := f, params := ps, assign, body, defers := w.heap.size } := ⟨_, rfl⟩
  obtain ⟨W1, hW1⟩ : ∃ W1, (w.alloc (.deferred (some []))).alloc (.loop (rec .ready none)) = W1 := ⟨_, rfl⟩
  have hsz1 : W1.heap.size = w.heap.size + 2 := by rw [← hW1]; simp
  have hBw : Below w.heap.size w W1 := by rw [← hW1]; exact ((Below.refl _ w).alloc (Nat.le_refl _) _).alloc (by simp) _
  have hL1 : W1.heap[w.heap.size + 1]? = some (.loop (rec .ready none)) := by
    rw [← hW1]; have := World.alloc_heap_new (w.alloc (.deferred (some []))) (.loop (rec .ready none)); rwa [World.size_alloc] at this
  have hK1 : W1.heap[w.heap.size]? = some (.deferred (some [])) := by
    rw [← hW1]; exact (Below.heap_alloc _ _ _ (by simp)).trans (World.alloc_heap_new w _)
  have hI1 : I i0 W1 := hI i0 w W1 h0 (Agree.of_below hBw)
  have hb1 : Below w0.heap.size w0 W1 := hB0.trans (hBw.mono hB0.size)
  have hlt : ∀ {W : World} {k : Nat} {o : Obj}, W.heap[k]? = some o → k < W.heap.size := fun h => (Array.getElem?_eq_some_iff.1 h).1
  have hst : ∀ {A B : World} {k : Nat} {o : Obj}, Agree (Z W1.heap.size) A B → k = w.heap.size ∨ k = w.heap.size + 1 → A.heap[k]? = some o → B.heap[k]? = some o := by
    intro A B k o hA hk ho
    rw [hA.block k (hlt ho) (fun hz => by rw [hsz1] at hz; have := hZ k hz; omega)]
    exact ho
  refine ⟨w.heap.size + 1, [{ target := .collected w.heap.size, args := #[] }], W1, { target := .fn (.func gf) caps.toArray, args := #[.func (.yield (w.heap.size + 1)) #[] #[]] }, W1, gf,
    #[.func (.yield (w.heap.size + 1)) #[] #[]] ++ caps.toArray, W1, ?_, ?_, fun _ _ => trivial, ?_, fun h => by simp [Fence.wide] at h, ?_⟩
  · rw [← hW1, hrec]; exact run_enterLoop_outer _ _ _ _ _
  · rw [evo_eq f ds] at hg
    simp only [resolve, hg]
    simp [go_sem]
  · simp only [invoke, run_callFunc hgf]
  · have hcall := hit (w.heap.size + 1)
      (fun i W => I i W ∧ W.heap[w.heap.size + 1]? = some (.loop (rec .ready none)) ∧ W.heap[w.heap.size]? = some (.deferred (some [])))
      (fun i W => ∃ c, Ix c i W ∧ W.heap[w.heap.size + 1]? = some (.loop (rec .done (some c))) ∧ W.heap[w.heap.size]? = some (.deferred (some [])))
      W1 hb1
      (fun i A B ⟨h1, h2, h3⟩ hA => ⟨hI i A B h1 (hA.mono fun k _ hz => .inr (by rw [hsz1] at hz; exact hz)), hst hA (.inr rfl) h2, hst hA (.inl rfl) h3⟩)
      (fun i A B ⟨c, h1, h2, h3⟩ hA => ⟨c, hIx c i A B h1 (hA.mono fun k _ hz => .inr (by rw [hsz1] at hz; exact hz)), hst hA (.inr rfl) h2, hst hA (.inl rfl) h3⟩)
      ⟨hI1, hL1, hK1⟩ ?_
    · have e : (Value.func (.yield (w.heap.size + 1)) #[] #[] :: caps).toArray = #[.func (.yield (w.heap.size + 1)) #[] #[]] ++ caps.toArray := by simp
      rw [e] at hcall
      refine ((callsIn_wide (n := 0 - 1)).2 hcall).mono ?_
      rintro e W2 ⟨⟨v, rfl⟩, (⟨i, hfi, hi, hl, hk⟩ | ⟨i, c, hi, hl, hk⟩)⟩
      · refine ⟨none, W2.putObj (w.heap.size + 1) (.loop { rec .ready none with state := .exhausted }), ?_, ?_⟩
        · have := run_endLoop (P := P) hl (by rw [hrec]; simp)
          rw [this, hrec]
        · refine ⟨hs, hdone i _ hfi (hI _ _ _ hi (Agree.putObj W2 _ (.inl rfl))) ?_⟩
          rw [World.putObj_heap_other (by omega)]; exact hk
      · refine ⟨some c, W2.putObj (w.heap.size + 1) (.loop { rec .done (some c) with state := .exhausted }), ?_, ?_⟩
        · have := run_endLoop (P := P) hl (by rw [hrec]; simp)
          rw [this, hrec]
        · exact hstop c i _ (hIx _ _ _ _ hi (Agree.putObj W2 _ (.inl rfl))) (by rw [World.putObj_heap_other (by omega)]; exact hk)
    · rintro i vals i' Wi ⟨hIi, hl, hk⟩ hE hz
      rw [hsz1] at hz ⊢
      have hy := run_yield (P := P) (args := vals) hl (by rw [hrec]; exact hps i vals i' Wi hE)
      rw [hrec] at hy
      refine ⟨fn, _, assign, body, hy, roundIn_of_wpIn (F := Fence.wide) trivial ?_⟩
      have hfold : ((ps.zip vals).foldl (fun (t : Array Value) (x : Nat × Value) => t.setIfInBounds x.1 x.2) f) = setAll f ps.toList vals.toList := by
        rw [← Array.foldl_toList, Array.toList_zip]; exact fold_setAll _ _ _
      show assign.wpIn (Fence.wide.inRound (w.heap.size + 1)) 0 P _ { tmps := (ps.zip vals).foldl (fun (t : Array Value) (x : Nat × Value) => t.setIfInBounds x.1 x.2) f, defers := [] } Wi
      rw [hfold]
      have hsd := vc_sound ⟨[], some (w.heap.size + 1)⟩ hm assign _ _ Wi (by rw [setAll_size]; exact hs) hoa (hround (w.heap.size + 1) i vals i' Wi hIi hE hz (by have := hlt hl; omega) ⟨_, hl⟩)
      refine wpIn_mono (F := Fence.wide.inRound (w.heap.size + 1)) hsd ?_
      rintro e ⟨f2, ds2⟩ W2 ⟨hd2, hs2, hq⟩
      simp only at hd2 hs2
      subst hd2
      cases e with
      | normal =>
        obtain ⟨hA, hbody⟩ := hq
        have hl2 : W2.heap[w.heap.size + 1]? = some (.loop (rec .ready none)) := by rw [hA.block _ (hlt hl) (fun h => h)]; exact hl
        have hk2 : W2.heap[w.heap.size]? = some (.deferred (some [])) := by rw [hA.block _ (hlt hk) (fun h => h)]; exact hk
        refine ⟨_, run_beginRound hl2 (by rw [hrec]), ?_⟩
        obtain ⟨W3, hW3⟩ : ∃ W3, W2.putObj (w.heap.size + 1) (.loop { rec .ready none with state := .busy }) = W3 := ⟨_, rfl⟩
        rw [hW3]
        have hA3 : Agree (fun k => k = w.heap.size + 1) W2 W3 := by rw [← hW3]; exact Agree.putObj W2 _ rfl
        have hl3 : W3.heap[w.heap.size + 1]? = some (.loop { rec .ready none with state := .busy }) := by rw [← hW3]; exact World.putObj_heap_same (hlt hl2)
        have hk3 : W3.heap[w.heap.size]? = some (.deferred (some [])) := by rw [← hW3, World.putObj_heap_other (by omega)]; exact hk2
        have hbd := vc_sound ⟨[], some (w.heap.size + 1)⟩ hm body _ f2 W3 hs2 hob (hbody W3 hA3)
        refine wpIn_mono (F := Fence.wide.inRound (w.heap.size + 1)) hbd ?_
        have fin : ∀ (jump : Option Code) (W4 : World), Agree (fun k => ¬ (Kp k ∨ Z (w.heap.size + 2) k ∨ k = w.heap.size ∨ k = w.heap.size + 1)) W3 W4 →
            ∃ W5, (Instr.endRound (w.heap.size + 1) jump).run P W4 = .ok (.bool jump.isNone) W5 ∧ Agree (fun k => k = w.heap.size + 1) W4 W5 ∧
              W5.heap[w.heap.size + 1]? = some (.loop (rec (if jump.isNone then .ready else .done) jump)) ∧ W5.heap[w.heap.size]? = some (.deferred (some [])) ∧ Agree (fun k => ¬ (Kp k ∨ Z (w.heap.size + 2) k)) Wi W5 := by
          intro jump W4 hA4
          have hl4 : W4.heap[w.heap.size + 1]? = some (.loop { rec .ready none with state := .busy }) := by rw [hA4.block _ (hlt hl3) (by simp)]; exact hl3
          have hk4 : W4.heap[w.heap.size]? = some (.deferred (some [])) := by rw [hA4.block _ (hlt hk3) (by simp)]; exact hk3
          have hend := run_endRound (P := P) jump hl4
          have hxL : ¬ (Kp (w.heap.size + 1) ∨ Z (w.heap.size + 2) (w.heap.size + 1)) := fun h => h.elim hKp fun hz => (hZ _ hz).2 rfl
          refine ⟨_, hend, Agree.putObj W4 _ rfl, ?_, ?_, ?_⟩
          · rw [World.putObj_heap_same (hlt hl4), hrec]
          · rw [World.putObj_heap_other (by omega)]; exact hk4
          · refine (((hA.mono fun k _ h => h.elim).trans (hA3.mono fun k _ h => by rw [h]; exact hxL)).trans (hA4.mono fun k _ h => fun h' => h (h'.elim .inl fun h => .inr (.inl h)))).trans (Agree.putObj W4 _ hxL)
        rintro e4 a4 W4 ⟨_, _, hq4⟩
        cases e4 with
        | normal =>
          obtain ⟨W5, h1, h2, h3, h4, h5⟩ := fin none W4 hq4.1
          exact ⟨_, W5, h1, .inl ⟨rfl, ⟨hI _ _ _ hq4.2 (h2.mono fun k _ h => .inl h), h3, h4⟩, h5⟩⟩
        | ret =>
          obtain ⟨W5, h1, h2, h3, h4, h5⟩ := fin (some .ret) W4 hq4.1
          exact ⟨_, W5, h1, .inr ⟨rfl, .ret, hIx _ _ _ _ hq4.2 (h2.mono fun k _ h => .inl h), h3, h4⟩⟩
        | exit id =>
          obtain ⟨W5, h1, h2, h3, h4, h5⟩ := fin (some (.exit id)) W4 hq4.1
          exact ⟨_, W5, h1, .inr ⟨rfl, .exit id, hIx _ _ _ _ hq4.2 (h2.mono fun k _ h => .inl h), h3, h4⟩⟩
        | _ => exact hq4.elim
      | _ => exact hq.elim
end Go.VC
