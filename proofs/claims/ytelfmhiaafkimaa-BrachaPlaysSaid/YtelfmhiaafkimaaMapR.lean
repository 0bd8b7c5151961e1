/- 'for k, v := range m' over a map of one's own; 'm[k]++'. Over any program. -/
import Derived.Test.YtelfmhiaafkimaaMapV
namespace Go.VC
open Go Go.RowKit Go.WideShapes Go.ChangeMaps Go.MapKept Go.Maps
open Go.WideElems (Fit rd rg pl rd_key rd_val rg_of other_key)
set_option linter.unusedVariables false
set_option linter.unusedSimpArgs false

/-- A range under way: block b is the map m, r its iterator; who is still to come, how many. -/
def RangeV (P : Program) {k : TypeId} {α : Type} (E : KE P k α) (w : World) (b r n : Nat) (m : α → Option Value) (left : α → Prop) (cnt : Nat) : Prop :=
  ∃ (D : DataW Value) (leftL : Lit → Bool), w.ranges P k RV b r n D leftL cnt ∧ Maps.size D = n ∧ (∀ x, E.ok x → Maps.has D (E.L x) = (m x).isSome ∧ ∀ v, m x = some v → ∀ zd, D.atKey (E.L x) zd = .held v) ∧ ∀ x, E.ok x → (leftL (E.L x) = true ↔ left x)
section
variable {P : Program} {k e t : TypeId} {α : Type} {E : KE P k α} {w w' : World} {b r n cnt : Nat} {m : α → Option Value} {left : α → Prop}
theorem RangeV.map (h : RangeV P E w b r n m left cnt) : MapV P E w b n m := by
  obtain ⟨D, lL, h1, h2, h3, _⟩ := h
  exact ⟨D, h1.owns, h2, h3⟩
theorem RangeV.lt (h : RangeV P E w b r n m left cnt) : r < w.heap.size := by obtain ⟨D, lL, h1, _⟩ := h; exact h1.lt
theorem RangeV.ne (h : RangeV P E w b r n m left cnt) : r ≠ b := by obtain ⟨D, lL, h1, _⟩ := h; exact h1.ne
theorem RangeV.agree {X : Nat → Prop} (h : RangeV P E w b r n m left cnt) (hA : Agree X w w') (hb : ¬ X b) (hr : ¬ X r) : RangeV P E w' b r n m left cnt := by
  have h5 := h.map.lt
  have h6 := h.lt
  obtain ⟨D, lL, ⟨es, clock, since, seen, c0, g1, g2, g3, g4, g5, rest⟩, h2⟩ := h
  exact ⟨D, lL, ⟨es, clock, since, seen, c0, (hA.block b h5 hb).trans g1, g2, g3, g4, (hA.block r h6 hr).trans g5, rest⟩, h2⟩
theorem RangeV.below (h : RangeV P E w b r n m left cnt) (hB : Below w.heap.size w w') : RangeV P E w' b r n m left cnt := h.agree (X := fun _ => False) (Agree.of_below hB) id id
theorem RangeV.drewN (h : RangeV P E w b r n m left cnt) (u : Nat) : RangeV P E (w.drewN u) b r n m left cnt := h

/-- 'range m'. -/
theorem OPW_rangeV {o : Oper} {f : Array Value} {K' : Value → World → Prop} {mo : Operand} (hM : MapV P E w b n m) (ho : o.op = .range t mo) (ht : mapKB P t k = true) (hm : evo f mo = .map (some b))
    (hk : ∀ w', RangeV P E w' b w.heap.size n m (fun x => (m x).isSome = true) n → Below w.heap.size w w' → w'.heap.size = w.heap.size + 1 → Now (K' (.pointer (some ⟨w.heap.size, 0, none⟩)) w')) : OPW P o f w K' := by
  obtain ⟨e, ht⟩ := mapKB_of ht
  intro X K Q hK
  refine op_lift X (by rw [ho]; intro c h; cases h) ?_
  obtain ⟨D, hown, hsz, hD⟩ := hM
  have hown2 : w.ownsMap P k RV b n D := hown
  obtain ⟨w', hrun, r1, r2, r3⟩ := hown2.range E.keyed (mapO_of ht)
  rw [hsz] at r1
  have := hK _ _ (hk w' ⟨D, _, r1, hsz, hD, fun x hx => by rw [(hD x hx).1]⟩ ⟨r2.os, r2.tape, r2.output, r2.size, fun j hj => r2.block j hj (by simp)⟩ r3)
  rw [evo_eq f X.ds] at hm
  unfold Oper.wp execOp
  simp only [ho, hm, hrun, Sem.run_bind, Sem.run_pure, Result.andThen_ok]
  exact this

/-- What 'entry' gives. -/
def EntryV (P : Program) (w : World) (r : Nat) (kv v : Value) : Prop := (Instr.entry (.pointer (some ⟨r, 0, none⟩))).run P w = .ok (.tuple #[kv, v]) w
/-- The step. -/
theorem OPW_nextV {o : Oper} {f : Array Value} {K' : Value → World → Prop} {it : Operand} (hR : RangeV P E w b r n m left cnt) (ho : o.op = .next it false) (hi : evo f it = .pointer (some ⟨r, 0, none⟩))
    (hdone : cnt = 0 → (∀ x, E.ok x → ¬ left x) → Now (K' (.tuple #[.bool false]) w))
    (hmore : ∀ x v w' cnt', E.ok x → left x → m x = some v → RangeV P E w' b r n m (fun y => left y ∧ y ≠ x) cnt' → cnt' < cnt → Agree (fun j => j = r) w w' → w'.heap.size = w.heap.size → EntryV P w' r (E.K x) v → Now (K' (.tuple #[.bool true, E.K x, v]) w')) : OPW P o f w K' := by
  intro X K Q hK
  refine op_lift X (by rw [ho]; intro c h; cases h) ?_
  obtain ⟨D, lL, hrg, hsz, hD, hl⟩ := hR
  rw [evo_eq f X.ds] at hi
  rcases hrg.next E.keyed o.type with ⟨h0, hL, hrun⟩ | ⟨key, v, kl, y, w', cnt', hkey, hlk, hv, hat, hrun, hrg', hlt, hgr, hsz', hen⟩
  · have := hK _ _ (hdone h0 fun x hx hlx => by have := (hl x hx).2 hlx; rw [hL] at this; cases this)
    unfold Oper.wp execOp
    simp only [ho, hi, hrun, Sem.run_bind, Sem.run_pure, Result.andThen_ok]
    exact this
  · obtain ⟨x, hx, rfl⟩ := E.inv _ _ hkey
    have hkl : kl = E.L x := by
      have := E.L_of hx
      rw [hkey] at this
      exact Option.some.inj this
    subst hkl
    have hy : y = (.held v, []) := (Option.some.inj hv).symm
    subst hy
    have hlx := (hl x hx).1 hlk
    have hmx : m x = some v := by
      have h3 := hat (.held undef)
      cases hq : m x with
      | none =>
        obtain ⟨h4, _⟩ := hD x hx
        rw [hq] at h4
        have h5 := hat .nil
        rw [Maps.atKey_of_not_has h4] at h5
        cases h5
      | some u => rw [(hD x hx).2 u hq] at h3; cases h3; rfl
    have := hK _ _ (hmore x v w' cnt' hx hlx hmx ⟨D, _, hrg', hsz, hD, fun z hz => ?_⟩ hlt (Agree.grown hgr fun j hj => by cases hj; rfl) hsz' hen)
    · unfold Oper.wp execOp
      simp only [ho, hi, hrun, Sem.run_bind, Sem.run_pure, Result.andThen_ok]
      exact this
    · by_cases hzx : z = x
      · subst hzx
        simp [WideAt.sameKey_self (E.isKey hx)]
      · have hne : E.L z ≠ E.L x := fun h => hzx (E.L_inj hz hx h)
        simp [Maps.sameKey_ne hne, hl z hz, hzx]
theorem OPW_entryV {o : Oper} {f : Array Value} {K' : Value → World → Prop} {it : Operand} {kv v : Value} (hE : EntryV P w r kv v) (ho : o.op = .entry it) (hi : evo f it = .pointer (some ⟨r, 0, none⟩))
    (hk : Now (K' (.tuple #[kv, v]) w)) : OPW P o f w K' := by
  intro X K Q hK
  refine op_lift X (by rw [ho]; intro c h; cases h) ?_
  rw [evo_eq f X.ds] at hi
  have := hK _ _ hk
  have hE : (Instr.entry (.pointer (some ⟨r, 0, none⟩))).run P w = .ok (.tuple #[kv, v]) w := hE
  unfold Oper.wp execOp
  simp only [ho, hi, hE, Sem.run_bind, Sem.run_pure, Result.andThen_ok]
  exact this
end

/-! ### 'm[k]++': the entry is laid, then stored into -/
/-- The stamp s is that of the entry at x. -/
def StampV (w : World) (b : Nat) (key : Value) (s : Nat) : Prop := ∃ es clock, w.heap[b]? = some (.map es clock) ∧ ∃ (j : Nat) (e : MapEntry), es.toList[j]? = some e ∧ e.born = s ∧ e.key = key
section
variable {P : Program} {k e t : TypeId} {α : Type} {E : KE P k α} {w w' : World} {b r n cnt : Nat} {m : α → Option Value} {left : α → Prop}
theorem MapV.entry (hM : MapV P E w b n m) (ht : mapO P t = some (k, e)) {z : Value} (hz : zvo P e = some z) (hn : n < maxLen) {x : α} (fx : E.ok x) :
    ∃ w' s, (Instr.mapEntry t (.map (some b)) (E.K x)).run P w = .ok (.tuple #[(m x).getD z, .int .i64 (s : Nat)]) w' ∧ MapV P E w' b (if (m x).isSome = true then n else n + 1) (updV m x ((m x).getD z)) ∧ w.mapTurned w' b ∧ StampV w' b (E.K x) s := by
  have hl := hM.look ht hz fx true
  obtain ⟨w1, hrun, hM1, hturn⟩ := hM.store ht hn fx ((m x).getD z)
  obtain ⟨D, ⟨es, clock, hb, F, hle, hD⟩, hsz, hDm⟩ := hM
  have hkeys : ∀ e ∈ es.toList, ∃ l, keyOf P k e.key = some l := fun e he => by obtain ⟨y, hy⟩ := F.reads e he; exact ⟨_, rd_key hy⟩
  rcases E.keyed.find w (E.L_of fx) es.toList hkeys with ⟨h1, h2⟩ | ⟨j, e0, h1, h2, h3⟩
  · -- nothing there
    have hv : (m x).getD z = z := by
      simp only [Instr.lookup, run_underlying (mapO_of ht), MapKept.run_getObj_map hb, E.keyed.check w _ (E.L_of fx), h1, zvo_run hz, Sem.run_bind, Sem.run_pure, Result.andThen_ok] at hl
      simp at hl
      exact hl.1.symm
    rw [hv] at hrun hM1 ⊢
    have hrun2 : (Instr.mapEntry t (.map (some b)) (E.K x)).run P w = .ok (.tuple #[z, .int .i64 (clock : Nat)]) w1 := by
      simp only [Instr.mapUpdate, run_underlying (mapO_of ht), MapKept.run_getObj_map hb, E.keyed.check w _ (E.L_of fx), h1, MapKept.run_setObj_map _ hb, Sem.run_bind, Sem.run_pure, Result.andThen_ok] at hrun
      simp only [Instr.mapEntry, run_underlying (mapO_of ht), MapKept.run_getObj_map hb, E.keyed.check w _ (E.L_of fx), h1, zvo_run hz, MapKept.run_setObj_map _ hb, Sem.run_bind, Sem.run_pure, Result.andThen_ok, goInt]
      simp at hrun
      rw [← hrun]
    refine ⟨w1, clock, hrun2, hM1, hturn, ?_⟩
    simp only [Instr.mapUpdate, run_underlying (mapO_of ht), MapKept.run_getObj_map hb, E.keyed.check w _ (E.L_of fx), h1, MapKept.run_setObj_map _ hb, Sem.run_bind, Sem.run_pure, Result.andThen_ok] at hrun
    simp at hrun
    subst hrun
    exact ⟨_, _, (heap_set hb).1, es.size, _, by simp; rfl, rfl, rfl⟩
  · have hj : es[j]? = some e0 := by simpa using h2
    have hv : (m x).getD z = e0.val := by
      simp only [Instr.lookup, run_underlying (mapO_of ht), MapKept.run_getObj_map hb, E.keyed.check w _ (E.L_of fx), h1, zvo_run hz, Sem.run_bind, Sem.run_pure, Result.andThen_ok] at hl
      simp at hl
      exact hl.1.symm
    rw [hv] at hrun hM1 ⊢
    have hst : (Instr.keyThatStays e0.key (E.K x)).run P w = .ok (E.K x) w := by rw [h3]; exact E.keyed.stays w (E.L_of fx)
    simp only [Instr.mapUpdate, run_underlying (mapO_of ht), MapKept.run_getObj_map hb, E.keyed.check w _ (E.L_of fx), h1, hj, hst, Option.map_some, Option.getD_some, MapKept.run_setObj_map _ hb, Sem.run_bind, Sem.run_pure, Result.andThen_ok] at hrun
    have hrun2 : (Instr.mapEntry t (.map (some b)) (E.K x)).run P w = .ok (.tuple #[e0.val, .int .i64 (e0.born : Nat)]) w1 := by
      simp only [Instr.mapEntry, run_underlying (mapO_of ht), MapKept.run_getObj_map hb, E.keyed.check w _ (E.L_of fx), h1, hj, hst, Option.map_some, Option.getD_some, MapKept.run_setObj_map _ hb, Sem.run_bind, Sem.run_pure, Result.andThen_ok, goInt]
      simp at hrun
      rw [← hrun]
      have : (es.modify j fun e => { e with key := E.K x }) = es.modify j fun e => { e with key := E.K x, val := e0.val } := by
        apply Array.ext
        · simp
        · intro i hi1 hi2
          simp only [Array.getElem_modify]
          split
          · rename_i hji
            subst hji
            have : es[j]'(by simpa using hi1) = e0 := by
              rw [Array.getElem?_eq_getElem (by simpa using hi1)] at hj
              exact Option.some.inj hj
            rw [this]
          · rfl
      rw [this]
    refine ⟨w1, e0.born, hrun2, hM1, hturn, ?_⟩
    simp at hrun
    subst hrun
    exact ⟨_, _, (heap_set hb).1, j, { e0 with key := E.K x, val := e0.val }, by simp [Array.getElem?_modify, hj], rfl, rfl⟩

/-- 'm[x] op= ..', its first part. -/
theorem OPW_entV {o : Oper} {f : Array Value} {K' : Value → World → Prop} {mo xo : Operand} {x : α} {z v : Value} (hM : MapV P E w b n m) (ho : o.op = .mapEntry t mo xo) (hz : mapZ P t k = some z)
    (hm : evo f mo = .map (some b)) (hx : evo f xo = E.K x) (fx : E.ok x) (hn : n < maxLen) (hv : (m x).getD z = v)
    (hk : ∀ w' s, MapV P E w' b (if (m x).isSome = true then n else n + 1) (updV m x v) → StampV w' b (E.K x) s → w.mapTurned w' b → Now (K' (.tuple #[v, .int .i64 (s : Nat)]) w')) : OPW P o f w K' := by
  obtain ⟨e, ht, hz⟩ := mapZ_of hz
  intro X K Q hK
  refine op_lift X (by rw [ho]; intro c h; cases h) ?_
  obtain ⟨w', s, hrun, r1, r2, r3⟩ := hM.entry ht hz hn fx
  rw [hv] at hrun r1
  have := hK _ _ (hk w' s r1 r3 r2)
  rw [evo_eq f X.ds] at hm hx
  unfold Oper.wp execOp
  simp only [ho, hm, hx, hrun, Sem.run_bind, Sem.run_pure, Result.andThen_ok]
  exact this
/-- Its second part. -/
theorem OPW_estV {o : Oper} {f : Array Value} {K' : Value → World → Prop} {mo so co : Operand} {x : α} {c : Value} {s : Nat} (hM : MapV P E w b n m) (hS : StampV w b (E.K x) s) (ho : o.op = .entryStore t mo so co) (ht : mapKB P t k = true)
    (hm : evo f mo = .map (some b)) (hs : evo f so = .int .i64 (s : Nat)) (hc : evo f co = c) (fx : E.ok x) (hn : n < maxLen)
    (hk : ∀ w', MapV P E w' b n (updV m x c) → w.mapTurned w' b → Now (K' undef w')) : OPW P o f w K' := by
  obtain ⟨e, ht⟩ := mapKB_of ht
  intro X K Q hK
  refine op_lift X (by rw [ho]; intro c h; cases h) ?_
  have hM0 := hM
  obtain ⟨w1, hrun, hM1, hturn⟩ := hM.store ht hn fx c
  obtain ⟨D, ⟨es, clock, hb, F, hle, hD⟩, hsz, hDm⟩ := hM
  obtain ⟨es', clock', hb', j', e', he', hborn, hkey'⟩ := hS
  rw [hb] at hb'
  obtain ⟨rfl, rfl⟩ : es = es' ∧ clock = clock' := by cases hb'; exact ⟨rfl, rfl⟩
  have hkeys : ∀ e ∈ es.toList, ∃ l, keyOf P k e.key = some l := fun e he => by obtain ⟨y, hy⟩ := F.reads e he; exact ⟨_, rd_key hy⟩
  have hst0 := (stamped_iff es clock).1 F.stamped
  rcases E.keyed.find w (E.L_of fx) es.toList hkeys with ⟨h1, h2⟩ | ⟨j, e0, h1, h2, h3⟩
  · exact absurd hkey' (h2 e' (List.mem_of_getElem? he'))
  · have hj : es[j]? = some e0 := by simpa using h2
    have hmem0 : e0 ∈ es.toList := List.mem_of_getElem? h2
    have hmem' : e' ∈ es.toList := List.mem_of_getElem? he'
    have hee : e' = e0 := entry_eq_of_key hst0.2.2 hmem' hmem0 (hkey'.trans h3.symm)
    subst hee
    have hst : (Instr.keyThatStays e'.key (E.K x)).run P w = .ok (E.K x) w := by rw [h3]; exact E.keyed.stays w (E.L_of fx)
    simp only [Instr.mapUpdate, run_underlying (mapO_of ht), MapKept.run_getObj_map hb, E.keyed.check w _ (E.L_of fx), h1, hj, hst, Option.map_some, Option.getD_some, MapKept.run_setObj_map _ hb, Sem.run_bind, Sem.run_pure, Result.andThen_ok] at hrun
    have hin : (m x).isSome = true := by
      rw [← (hDm x fx).1, hD]
      obtain ⟨y, hy⟩ := F.reads e' hmem0
      refine List.any_eq_true.2 ⟨rg P k RV e', mem_sorted.2 (List.mem_map.2 ⟨e', hmem0, rfl⟩), ?_⟩
      have : (rg P k RV e').1 = E.L x := by
        rw [rg_of hy]
        have h5 := rd_key hy
        rw [h3, E.L_of fx] at h5
        exact (Option.some.inj h5).symm
      rw [this]
      exact WideAt.sameKey_self (E.isKey fx)
    rw [if_pos hin] at hM1
    have hfind : es.findIdx? (fun e => (e.born : Int) == ((s : Nat) : Int)) = some j := by
      have hjl : j < es.size := by
        rcases Nat.lt_or_ge j es.size with h | h
        · exact h
        · rw [Array.getElem?_eq_none h] at hj; cases hj
      rw [Array.findIdx?_eq_some_iff_getElem]
      refine ⟨hjl, ?_, fun i hi => ?_⟩
      · rw [Array.getElem?_eq_getElem hjl] at hj
        rw [Option.some.inj hj, hborn]; simp
      · have hil : i < es.size := by omega
        intro hbad
        have hb2 : (es[i]).born = s := by have h9 : (((es[i]).born : Nat) : Int) = (s : Nat) := by simpa using hbad
                                          exact Int.ofNat.inj h9
        have hmi : es[i] ∈ es.toList := by simp
        have := born_inj hst0.2.1 hmi hmem0 (hb2.trans hborn.symm)
        have hkk := hst0.2.2
        rw [List.pairwise_iff_getElem] at hkk
        have := hkk i j (by simpa using hil) (by simpa using hjl) hi
        apply this
        rw [Array.getElem?_eq_getElem hjl] at hj
        simp [Option.some.inj hj, *]
    have hrun2 : (Instr.entryStore t (.map (some b)) (.int .i64 (s : Nat)) c).run P w = .ok () w1 := by
      simp at hrun
      have hai : (asInt (.int .i64 (s : Nat))).run P w = .ok ((s : Nat) : Int) w := rfl
      simp only [Instr.entryStore, MapKept.run_getObj_map hb, hai, hfind, MapKept.run_setObj_map _ hb, Sem.run_bind, Sem.run_pure, Result.andThen_ok]
      rw [← hrun]
      have : (es.modify j fun e => { e with val := c }) = es.modify j fun e => { e with key := E.K x, val := c } := by
        apply Array.ext
        · simp
        · intro i hi1 hi2
          simp only [Array.getElem_modify]
          split
          · rename_i hji
            subst hji
            have : es[j]'(by simpa using hi1) = e' := by
              rw [Array.getElem?_eq_getElem (by simpa using hi1)] at hj
              exact Option.some.inj hj
            rw [this, h3]
          · rfl
      rw [this]
    have := hK _ _ (hk w1 hM1 hturn)
    rw [evo_eq f X.ds] at hm hs hc
    unfold Oper.wp execOp
    simp only [ho, hm, hs, hc, hrun2, Sem.run_bind, Sem.run_pure, Result.andThen_ok]
    exact this
end
end Go.VC
