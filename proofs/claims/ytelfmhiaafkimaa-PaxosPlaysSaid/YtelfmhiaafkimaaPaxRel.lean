/- A choice: what the document keeps, beside what the program keeps. No program in sight. -/
import Derived.Test.YtelfmhiaafkimaaPaxPlain
set_option linter.unusedSimpArgs false
set_option linter.unusedVariables false
namespace Go.Proofs.Ytelfmhiaafkimaa
open Go Go.RowKit Go.VC
set_option linter.unusedSimpArgs false
set_option linter.unusedVariables false

structure Vow where
  b : Int
  who : Int
  told : Bal
/-- Who has vowed a ballot. -/
def voF (b : Int) (seen : List Int) (v : Vow) : List Int := if v.b = b ∧ v.who ∉ seen then seen ++ [v.who] else seen
def voL (l : List Vow) (b : Int) : List Int := l.foldl (voF b) []
theorem voL_snoc (l : List Vow) (v : Vow) (b : Int) : voL (l ++ [v]) b = voF b (voL l b) v := by unfold voL; rw [List.foldl_append]; rfl
theorem mem_voF {b x : Int} : ∀ {l : List Vow} {acc : List Int}, x ∈ l.foldl (voF b) acc ↔ x ∈ acc ∨ ∃ v ∈ l, v.b = b ∧ v.who = x
  | [], acc => by simp
  | v :: l, acc => by
    rw [List.foldl_cons, mem_voF]
    have h : x ∈ voF b acc v ↔ x ∈ acc ∨ (v.b = b ∧ v.who = x) := by
      unfold voF
      split
      · rename_i h; rw [List.mem_append, List.mem_singleton]
        exact or_congr Iff.rfl ⟨fun e => ⟨h.1, e.symm⟩, fun e => e.2.symm⟩
      · rename_i h
        refine ⟨Or.inl, fun hh => hh.elim id fun e => ?_⟩
        by_cases hm : v.who ∈ acc
        · rw [← e.2]; exact hm
        · exact absurd ⟨e.1, hm⟩ h
    rw [h, or_assoc]
    refine or_congr Iff.rfl ⟨fun hh => ?_, fun ⟨u, hu, hb⟩ => ?_⟩
    · rcases hh with e | ⟨u, hu, e⟩
      · exact ⟨v, by simp, e⟩
      · exact ⟨u, by simp [hu], e⟩
    · rcases List.mem_cons.1 hu with rfl | hu
      · exact Or.inl hb
      · exact Or.inr ⟨u, hu, hb⟩
theorem mem_voL {l : List Vow} {b x : Int} : x ∈ voL l b ↔ ∃ v ∈ l, v.b = b ∧ v.who = x := by
  unfold voL; rw [mem_voF]; simp
theorem voL_none {l : List Vow} {b : Int} (h : ∀ v ∈ l, v.b ≠ b) : voL l b = [] := by
  refine List.eq_nil_iff_forall_not_mem.2 fun x hx => ?_
  obtain ⟨v, hv, e, _⟩ := mem_voL.1 hx
  exact h v hv e
/-- The greatest ballot that one has promised. -/
def proF (who m : Int) (v : Vow) : Int := if v.who = who ∧ m < v.b then v.b else m
def proL (l : List Vow) (who : Int) : Int := l.foldl (proF who) 0
theorem proF_all {who : Int} : ∀ {l : List Vow} {m : Int}, m ≤ l.foldl (proF who) m ∧ (∀ v ∈ l, v.who = who → v.b ≤ l.foldl (proF who) m) ∧ (l.foldl (proF who) m = m ∨ ∃ v ∈ l, v.who = who ∧ v.b = l.foldl (proF who) m)
  | [], m => ⟨Int.le_refl _, fun v hv => (by cases hv), Or.inl rfl⟩
  | v :: l, m => by
    obtain ⟨h1, h2, h3⟩ := proF_all (who := who) (l := l) (m := proF who m v)
    rw [List.foldl_cons]
    have h4 : m ≤ proF who m v ∧ (v.who = who → v.b ≤ proF who m v) ∧ (proF who m v = m ∨ v.who = who ∧ v.b = proF who m v) := by
      unfold proF
      split
      · rename_i h; exact ⟨by omega, fun _ => Int.le_refl _, Or.inr ⟨h.1, rfl⟩⟩
      · rename_i h; exact ⟨Int.le_refl _, fun e => Int.not_lt.1 fun hh => h ⟨e, hh⟩, Or.inl rfl⟩
    refine ⟨Int.le_trans h4.1 h1, fun u hu e => ?_, ?_⟩
    · rcases List.mem_cons.1 hu with rfl | hu
      · exact Int.le_trans (h4.2.1 e) h1
      · exact h2 u hu e
    · rcases h3 with h3 | ⟨u, hu, e⟩
      · rcases h4.2.2 with h5 | ⟨h5, h6⟩
        · exact Or.inl (h3.trans h5)
        · exact Or.inr ⟨v, by simp, h5, h6.trans h3.symm⟩
      · exact Or.inr ⟨u, by simp [hu], e⟩
theorem proL_le {l : List Vow} {who : Int} {v : Vow} (hv : v ∈ l) (e : v.who = who) : v.b ≤ proL l who := proF_all.2.1 v hv e
theorem proL_eq {l : List Vow} {who m : Int} (h1 : ∀ v ∈ l, v.who = who → v.b ≤ m) (h2 : m = 0 ∨ ∃ v ∈ l, v.who = who ∧ v.b = m) (h3 : 0 ≤ m) : proL l who = m := by
  obtain ⟨g1, g2, g3⟩ := proF_all (who := who) (l := l) (m := 0)
  refine Int.le_antisymm ?_ ?_
  · rcases g3 with g3 | ⟨v, hv, e1, e2⟩
    · show l.foldl (proF who) 0 ≤ m; omega
    · show l.foldl (proF who) 0 ≤ m; rw [← e2]; exact h1 v hv e1
  · rcases h2 with h2 | ⟨v, hv, e1, e2⟩
    · show m ≤ l.foldl (proF who) 0; omega
    · rw [← e2]; exact g2 v hv e1
theorem proL_in (l : List Vow) (who : Int) : 0 ≤ proL l who ∧ (proL l who = 0 ∨ ∃ v ∈ l, v.who = who ∧ v.b = proL l who) := ⟨proF_all.1, proF_all.2.2⟩
theorem proL_same {l l' : List Vow} {who : Int} (h : ∀ v, v.who = who → (v ∈ l' ↔ v ∈ l)) : proL l' who = proL l who := by
  obtain ⟨g1, g2⟩ := proL_in l who
  refine proL_eq (fun v hv e => proL_le ((h v e).1 hv) e) ?_ g1
  rcases g2 with g2 | ⟨v, hv, e1, e2⟩
  · exact Or.inl g2
  · exact Or.inr ⟨v, (h v e1).2 hv, e1, e2⟩
/-- What one took last. -/
def takF (who : Int) (x : Bal) (v : Vow) : Bal := if v.who = who then v.told else x
def takL (l : List Vow) (who : Int) : Bal := l.foldl (takF who) bal0
theorem takL_snoc (l : List Vow) (v : Vow) (who : Int) : takL (l ++ [v]) who = if v.who = who then v.told else takL l who := by unfold takL; rw [List.foldl_append]; rfl
/-- The greatest that was told to a ballot. -/
def bestF (b : Int) (x : Bal) (v : Vow) : Bal := if v.b = b ∧ x.n < v.told.n then v.told else x
def bestL (l : List Vow) (b : Int) : Bal := l.foldl (bestF b) bal0
theorem bestL_snoc (l : List Vow) (v : Vow) (b : Int) : bestL (l ++ [v]) b = bestF b (bestL l b) v := by unfold bestL; rw [List.foldl_append]; rfl
theorem bestF_none {b : Int} : ∀ {l : List Vow} {x : Bal}, (∀ v ∈ l, v.b ≠ b) → l.foldl (bestF b) x = x
  | [], x, _ => rfl
  | v :: l, x, h => by
    rw [List.foldl_cons, bestF_none fun u hu => h u (by simp [hu])]
    exact if_neg fun hh => h v (by simp) hh.1
/-- A ballot of a list. -/
def ofL (l : List Bal) (b : Int) : Option Bal := l.find? fun x => decide (x.n = b)
theorem ofL_snoc (l : List Bal) (x : Bal) (b : Int) : ofL (l ++ [x]) b = (ofL l b).or (if x.n = b then some x else none) := by
  unfold ofL
  rw [List.find?_append]
  congr 1
  rw [List.find?_cons]
  by_cases h : x.n = b
  · rw [decide_eq_true h, if_pos h]
  · rw [decide_eq_false h, if_neg h]; rfl
theorem ofL_none {l : List Bal} {b : Int} (h : ∀ x ∈ l, x.n ≠ b) : ofL l b = none := List.find?_eq_none.2 fun x hx => by simpa using h x hx

structure PRel (n t : Nat) (s : PS) (V T : List Vow) : Prop where
  pro : ∀ a : Nat, proL (V ++ T) a = (s.vt a).p
  tak : ∀ a : Nat, takL T a = (s.vt a).tk
  vo : ∀ i, i < s.k → (s.bal i).fixed = false → (voL V (s.num i)).length = (s.bal i).prom
  best : ∀ i, i < s.k → (s.bal i).fixed = false → bestL V (s.num i) = (s.bal i).best
  fx : ∀ i, i < s.k → ofL s.fixd (s.num i) = if (s.bal i).fixed = true then some (s.bal i).best else none
  tk : ∀ i, i < s.k → (voL T (s.num i)).length = (s.bal i).tooks
  tkm : ∀ i, i < s.k → ∀ a : Nat, ((a : Int) ∈ voL T (s.num i)) ↔ (s.bal i).took a = true
  new : ∀ v ∈ V ++ T, ∃ i, i < s.k ∧ s.num i = v.b
  fnew : ∀ x ∈ s.fixd, ∃ i, i < s.k ∧ s.num i = x.n
  lenV : V.length ≤ t
  lenT : T.length ≤ t
theorem PRel.up {n t : Nat} {s : PS} {V T : List Vow} (h : PRel n t s V T) : PRel n (t + 1) s V T :=
  { h with lenV := by have := h.lenV; omega, lenT := by have := h.lenT; omega }
theorem prel0 (n : Nat) : PRel n 0 ps0 [] [] :=
  ⟨fun _ => rfl, fun _ => rfl, fun i hi => absurd hi (Nat.not_lt_zero i), fun i hi => absurd hi (Nat.not_lt_zero i), fun i hi => absurd hi (Nat.not_lt_zero i), fun i hi => absurd hi (Nat.not_lt_zero i), fun i hi => absurd hi (Nat.not_lt_zero i), fun v hv => (by cases hv), fun x hx => (by cases hx), Nat.le_refl _, Nat.le_refl _⟩
theorem prel_begin {n t : Nat} {s : PS} {V T : List Vow} {c : TryC} (h : PRel n t s V T) (hn : pidx s.num c.ballot s.k = none) : PRel n (t + 1) (pbegin c s) V T := by
  have hnone := pidx_none hn
  have hV : ∀ v ∈ V ++ T, v.b ≠ c.ballot := fun v hv e => by
    obtain ⟨i, hi, e2⟩ := h.new v hv
    exact hnone i hi (e2.trans e)
  have hF : ∀ x ∈ s.fixd, x.n ≠ c.ballot := fun x hx e => by
    obtain ⟨i, hi, e2⟩ := h.fnew x hx
    exact hnone i hi (e2.trans e)
  have both : ∀ (Q : Int → BalS → Prop), Q c.ballot ⟨c.val, bal0, 0, false, fun _ => false, 0⟩ → (∀ i, i < s.k → Q (s.num i) (s.bal i)) → ∀ i, i < s.k + 1 → Q (upd s.num s.k c.ballot i) (upd s.bal s.k ⟨c.val, bal0, 0, false, fun _ => false, 0⟩ i) := fun Q h0 h1 i hi => by
    by_cases e : i = s.k
    · subst e; rw [upd_same, upd_same]; exact h0
    · rw [upd_other e, upd_other e]; exact h1 i (by omega)
  have hvn : voL V c.ballot = [] := voL_none fun v hv => hV v (List.mem_append_left _ hv)
  have htn : voL T c.ballot = [] := voL_none fun v hv => hV v (List.mem_append_right _ hv)
  refine { h.up with
    vo := both (fun b o => o.fixed = false → (voL V b).length = o.prom) (fun _ => by rw [hvn]; rfl) h.vo
    best := both (fun b o => o.fixed = false → bestL V b = o.best) (fun _ => bestF_none fun v hv => hV v (List.mem_append_left _ hv)) h.best
    fx := both (fun b o => ofL s.fixd b = if o.fixed = true then some o.best else none) (ofL_none hF) h.fx
    tk := both (fun b o => (voL T b).length = o.tooks) (by rw [htn]; rfl) h.tk
    tkm := both (fun b o => ∀ a : Nat, ((a : Int) ∈ voL T b) ↔ o.took a = true) (fun a => by rw [htn]; simp) h.tkm
    new := fun v hv => ?_
    fnew := fun x hx => ?_ }
  · obtain ⟨i, hi, e⟩ := h.new v hv
    exact ⟨i, by show i < s.k + 1; omega, by show upd s.num s.k c.ballot i = _; rw [upd_other (by omega)]; exact e⟩
  · obtain ⟨i, hi, e⟩ := h.fnew x hx
    exact ⟨i, by show i < s.k + 1; omega, by show upd s.num s.k c.ballot i = _; rw [upd_other (by omega)]; exact e⟩
theorem prel_ask {n t i a : Nat} {s : PS} {V T : List Vow} (h : PRel n t s V T) (hok : POK n t s) (hi : i < s.k) (hp : ¬ s.num i ≤ (s.vt a).p) : PRel n (t + 1) (pask n i a s).2 (V ++ [⟨s.num i, a, (s.vt a).tk⟩]) T := by
  have hle : ∀ v ∈ V ++ T, v.who = a → v.b < s.num i := fun v hv e => by
    have := proL_le hv e
    rw [h.pro a] at this
    omega
  have hnm := hok.num i hi
  have hpro : ∀ x : Nat, proL ((V ++ [⟨s.num i, a, (s.vt a).tk⟩]) ++ T) x = (upd s.vt a ⟨s.num i, (s.vt a).tk⟩ x).p := fun x => by
    by_cases e : x = a
    · subst e
      rw [upd_same]
      refine proL_eq (fun v hv e => ?_) (Or.inr ⟨⟨s.num i, x, (s.vt x).tk⟩, by simp, rfl, rfl⟩) (by show 0 ≤ s.num i; omega)
      show v.b ≤ s.num i
      rw [List.append_assoc] at hv
      rcases List.mem_append.1 hv with hv | hv
      · exact Int.le_of_lt (hle v (List.mem_append_left _ hv) e)
      · rcases List.mem_cons.1 hv with rfl | hv
        · exact Int.le_refl _
        · exact Int.le_of_lt (hle v (List.mem_append_right _ hv) e)
    · rw [upd_other e, ← h.pro x]
      refine proL_same fun v hv => ?_
      simp only [List.mem_append, List.mem_singleton]
      refine ⟨fun hh => ?_, fun hh => hh.elim (fun h1 => Or.inl (Or.inl h1)) Or.inr⟩
      rcases hh with (h1 | h1) | h1
      · exact Or.inl h1
      · subst h1
        exact absurd (Int.ofNat.inj hv) (Ne.symm e)
      · exact Or.inr h1
  have htak : ∀ x : Nat, takL T x = (upd s.vt a ⟨s.num i, (s.vt a).tk⟩ x).tk := fun x => by
    rw [h.tak x]
    by_cases e : x = a
    · subst e; rw [upd_same]
    · rw [upd_other e]
  have hne : ∀ j, j < s.k → j ≠ i → s.num i ≠ s.num j := fun j hj e e2 => e (hok.inj i j hi hj e2).symm
  have hvo : ∀ j, j < s.k → j ≠ i → voL (V ++ [⟨s.num i, a, (s.vt a).tk⟩]) (s.num j) = voL V (s.num j) := fun j hj e => by
    rw [voL_snoc]; exact if_neg fun hh => hne j hj e hh.1
  have hbe : ∀ j, j < s.k → j ≠ i → bestL (V ++ [⟨s.num i, a, (s.vt a).tk⟩]) (s.num j) = bestL V (s.num j) := fun j hj e => by
    rw [bestL_snoc]; exact if_neg fun hh => hne j hj e hh.1
  have hvi : (voL (V ++ [⟨s.num i, a, (s.vt a).tk⟩]) (s.num i)).length = (voL V (s.num i)).length + 1 := by
    rw [voL_snoc]
    unfold voF
    rw [if_pos]
    · rw [List.length_append]; rfl
    · refine ⟨rfl, fun hm => ?_⟩
      obtain ⟨v, hv, e1, e2⟩ := mem_voL.1 hm
      have := hle v (List.mem_append_left _ hv) e2
      omega
  have hbi : bestL (V ++ [⟨s.num i, a, (s.vt a).tk⟩]) (s.num i) = told1 (bestL V (s.num i)) (s.vt a).tk := by
    rw [bestL_snoc]
    unfold bestF told1
    by_cases hh : (bestL V (s.num i)).n < (s.vt a).tk.n
    · rw [if_pos ⟨rfl, hh⟩, if_pos hh]
    · rw [if_neg (fun h => hh h.2), if_neg hh]
  have hnew : ∀ v ∈ (V ++ [⟨s.num i, a, (s.vt a).tk⟩]) ++ T, ∃ i, i < s.k ∧ s.num i = v.b := fun v hv => by
    rw [List.append_assoc] at hv
    rcases List.mem_append.1 hv with hv | hv
    · exact h.new v (List.mem_append_left _ hv)
    · rcases List.mem_cons.1 hv with rfl | hv
      · exact ⟨i, hi, rfl⟩
      · exact h.new v (List.mem_append_right _ hv)
  have hlV : (V ++ [(⟨s.num i, a, (s.vt a).tk⟩ : Vow)]).length ≤ t + 1 := by rw [List.length_append]; have := h.lenV; show V.length + 1 ≤ t + 1; omega
  have hlT := h.up.lenT
  unfold pask
  rw [if_neg hp]
  by_cases hf : (s.bal i).fixed = true
  · rw [if_pos hf]
    refine ⟨hpro, htak, fun j hj hjf => ?_, fun j hj hjf => ?_, h.fx, h.tk, h.tkm, hnew, h.fnew, hlV, hlT⟩
    · have e : j ≠ i := fun e => by subst e; rw [hf] at hjf; cases hjf
      show (voL _ (s.num j)).length = _
      rw [hvo j hj e]; exact h.vo j hj hjf
    · have e : j ≠ i := fun e => by subst e; rw [hf] at hjf; cases hjf
      show bestL _ (s.num j) = _
      rw [hbe j hj e]; exact h.best j hj hjf
  rw [if_neg hf]
  have hf : (s.bal i).fixed = false := by simpa using hf
  have hpi := h.vo i hi hf
  have hbi' := h.best i hi hf
  have hfi := h.fx i hi
  rw [hf] at hfi
  simp only [Bool.false_eq_true, if_false] at hfi
  by_cases hm : n < 2 * ((s.bal i).prom + 1)
  · rw [if_pos hm]
    refine ⟨hpro, htak, fun j hj hjf => ?_, fun j hj hjf => ?_, fun j hj => ?_, fun j hj => ?_, fun j hj => ?_, hnew, fun x hx => ?_, hlV, hlT⟩
    · have hjf : (upd s.bal i _ j).fixed = false := hjf
      have e : j ≠ i := fun e => by subst e; rw [upd_same] at hjf; cases hjf
      rw [upd_other e] at hjf
      show (voL _ (s.num j)).length = (upd s.bal i _ j).prom
      rw [hvo j hj e, upd_other e]; exact h.vo j hj hjf
    · have hjf : (upd s.bal i _ j).fixed = false := hjf
      have e : j ≠ i := fun e => by subst e; rw [upd_same] at hjf; cases hjf
      rw [upd_other e] at hjf
      show bestL _ (s.num j) = (upd s.bal i _ j).best
      rw [hbe j hj e, upd_other e]; exact h.best j hj hjf
    · show ofL (s.fixd ++ [_]) (s.num j) = if (upd s.bal i _ j).fixed = true then some (upd s.bal i _ j).best else none
      rw [ofL_snoc]
      by_cases e : j = i
      · subst e
        rw [upd_same, hfi]
        exact if_pos rfl
      · rw [upd_other e]
        refine (congrArg _ (if_neg (hne j hj e))).trans ?_
        rw [Option.or_none]
        exact h.fx j hj
    · show _ = (upd s.bal i _ j).tooks
      rw [h.tk j hj]
      by_cases e : j = i
      · subst e; rw [upd_same]
      · rw [upd_other e]
    · intro x
      show _ ↔ (upd s.bal i _ j).took x = true
      rw [h.tkm j hj x]
      by_cases e : j = i
      · subst e; rw [upd_same]
      · rw [upd_other e]
    · rcases List.mem_append.1 hx with hx | hx
      · exact h.fnew x hx
      · rw [List.mem_singleton.1 hx]; exact ⟨i, hi, rfl⟩
  · rw [if_neg hm]
    refine ⟨hpro, htak, fun j hj hjf => ?_, fun j hj hjf => ?_, fun j hj => ?_, fun j hj => ?_, fun j hj => ?_, hnew, h.fnew, hlV, hlT⟩
    · have hjf : (upd s.bal i _ j).fixed = false := hjf
      show (voL _ (s.num j)).length = (upd s.bal i _ j).prom
      by_cases e : j = i
      · subst e; rw [upd_same, hvi, hpi]
      · rw [upd_other e] at hjf ⊢
        rw [hvo j hj e]; exact h.vo j hj hjf
    · have hjf : (upd s.bal i _ j).fixed = false := hjf
      show bestL _ (s.num j) = (upd s.bal i _ j).best
      by_cases e : j = i
      · subst e; rw [upd_same, hbi, hbi']
      · rw [upd_other e] at hjf ⊢
        rw [hbe j hj e]; exact h.best j hj hjf
    · show ofL s.fixd (s.num j) = if (upd s.bal i _ j).fixed = true then some (upd s.bal i _ j).best else none
      by_cases e : j = i
      · subst e; rw [upd_same, hfi]; exact (if_neg (by show ¬ (s.bal j).fixed = true; rw [hf]; intro hh; cases hh)).symm
      · rw [upd_other e]; exact h.fx j hj
    · show _ = (upd s.bal i _ j).tooks
      rw [h.tk j hj]
      by_cases e : j = i
      · subst e; rw [upd_same]
      · rw [upd_other e]
    · intro x
      show _ ↔ (upd s.bal i _ j).took x = true
      rw [h.tkm j hj x]
      by_cases e : j = i
      · subst e; rw [upd_same]
      · rw [upd_other e]
theorem prel_take {n t i a : Nat} {s : PS} {V T : List Vow} (h : PRel n t s V T) (hok : POK n t s) (hi : i < s.k) (hp : ¬ ((s.bal i).fixed = false ∨ s.num i < (s.vt a).p)) : PRel n (t + 1) (ptake n i a s).2 V (T ++ [⟨s.num i, a, (s.bal i).best⟩]) := by
  rw [not_or] at hp
  have hle : ∀ v ∈ V ++ T, v.who = a → v.b ≤ s.num i := fun v hv e => by
    have := proL_le hv e
    rw [h.pro a] at this
    omega
  have hnm := hok.num i hi
  have hne : ∀ j, j < s.k → j ≠ i → s.num i ≠ s.num j := fun j hj e e2 => e (hok.inj i j hi hj e2).symm
  have hti := h.tk i hi
  have htm := h.tkm i hi a
  unfold ptake
  rw [if_neg (by rw [not_or]; exact hp)]
  refine ⟨fun x => ?_, fun x => ?_, fun j hj hjf => ?_, fun j hj hjf => ?_, fun j hj => ?_, fun j hj => ?_, fun j hj => ?_, fun v hv => ?_, h.fnew, h.up.lenV, by rw [List.length_append]; have := h.lenT; show T.length + 1 ≤ t + 1; omega⟩
  · show _ = (upd s.vt a _ x).p
    rw [← List.append_assoc]
    by_cases e : x = a
    · subst e
      rw [upd_same]
      refine proL_eq (fun v hv e => ?_) (Or.inr ⟨⟨s.num i, x, (s.bal i).best⟩, by simp, rfl, rfl⟩) (by show 0 ≤ s.num i; omega)
      show v.b ≤ s.num i
      rcases List.mem_append.1 hv with hv | hv
      · exact hle v hv e
      · rw [List.mem_singleton.1 hv]; exact Int.le_refl _
    · rw [upd_other e, ← h.pro x]
      refine proL_same fun v hv => ?_
      rw [List.mem_append (s := V ++ T), List.mem_singleton]
      refine ⟨fun hh => hh.elim id fun h1 => ?_, Or.inl⟩
      subst h1
      exact absurd (Int.ofNat.inj hv) (Ne.symm e)
  · show _ = (upd s.vt a _ x).tk
    rw [takL_snoc]
    by_cases e : x = a
    · subst e; rw [upd_same]; exact if_pos rfl
    · rw [upd_other e]; exact (if_neg (fun hh : ((a : Nat) : Int) = x => e (Int.ofNat.inj hh).symm)).trans (h.tak x)
  · have hjf : (upd s.bal i _ j).fixed = false := hjf
    show _ = (upd s.bal i _ j).prom
    by_cases e : j = i
    · subst e; rw [upd_same] at hjf ⊢; exact h.vo j hj hjf
    · rw [upd_other e] at hjf ⊢; exact h.vo j hj hjf
  · have hjf : (upd s.bal i _ j).fixed = false := hjf
    show _ = (upd s.bal i _ j).best
    by_cases e : j = i
    · subst e; rw [upd_same] at hjf ⊢; exact h.best j hj hjf
    · rw [upd_other e] at hjf ⊢; exact h.best j hj hjf
  · show _ = if (upd s.bal i _ j).fixed = true then some (upd s.bal i _ j).best else none
    by_cases e : j = i
    · subst e; rw [upd_same]; exact h.fx j hj
    · rw [upd_other e]; exact h.fx j hj
  · show (voL (T ++ [_]) (s.num j)).length = (upd s.bal i _ j).tooks
    rw [voL_snoc]
    by_cases e : j = i
    · subst e
      rw [upd_same]
      show (voF (s.num j) (voL T (s.num j)) ⟨s.num j, a, (s.bal j).best⟩).length = tooks1 (s.bal j) a
      unfold voF tooks1
      by_cases hm : (s.bal j).took a = true
      · rw [if_pos hm, if_neg (fun hh => hh.2 (htm.2 hm))]; exact hti
      · rw [if_neg hm, if_pos ⟨rfl, fun hh => hm (htm.1 hh)⟩, List.length_append, hti]; rfl
    · rw [upd_other e]
      have : voF (s.num j) (voL T (s.num j)) ⟨s.num i, a, (s.bal i).best⟩ = voL T (s.num j) := if_neg fun hh => hne j hj e hh.1
      rw [this]; exact h.tk j hj
  · intro x
    show _ ↔ (upd s.bal i _ j).took x = true
    rw [mem_voL]
    by_cases e : j = i
    · subst e
      rw [upd_same]
      show _ ↔ upd (s.bal j).took a true x = true
      by_cases e2 : x = a
      · subst e2
        rw [upd_same]
        exact ⟨fun _ => rfl, fun _ => ⟨⟨s.num j, x, (s.bal j).best⟩, by simp, rfl, rfl⟩⟩
      · rw [upd_other e2, ← h.tkm j hj x, mem_voL]
        refine ⟨fun ⟨v, hv, h1, h2⟩ => ?_, fun ⟨v, hv, hh⟩ => ⟨v, List.mem_append_left _ hv, hh⟩⟩
        rcases List.mem_append.1 hv with hv | hv
        · exact ⟨v, hv, h1, h2⟩
        · rw [List.mem_singleton.1 hv] at h2
          exact absurd (Int.ofNat.inj h2).symm e2
    · rw [upd_other e, ← h.tkm j hj x, mem_voL]
      refine ⟨fun ⟨v, hv, h1, h2⟩ => ?_, fun ⟨v, hv, hh⟩ => ⟨v, List.mem_append_left _ hv, hh⟩⟩
      rcases List.mem_append.1 hv with hv | hv
      · exact ⟨v, hv, h1, h2⟩
      · rw [List.mem_singleton.1 hv] at h1
        exact absurd h1 (hne j hj e)
  · rw [← List.append_assoc] at hv
    rcases List.mem_append.1 hv with hv | hv
    · exact h.new v hv
    · rw [List.mem_singleton.1 hv]; exact ⟨i, hi, rfl⟩
end Go.Proofs.Ytelfmhiaafkimaa
