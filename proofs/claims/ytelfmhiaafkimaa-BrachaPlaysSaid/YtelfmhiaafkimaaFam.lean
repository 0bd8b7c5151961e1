/- A family of slices that a call made itself, each in a block of its own; operations of a region that come in any order. -/
import Derived.Test.YtelfmhiaafkimaaRecs
import Derived.Test.YtelfmhiaafkimaaHeld
namespace Go.VC
open Go Go.RowKit
set_option linter.unusedVariables false
set_option linter.unusedSimpArgs false

theorem stW_one (w : World) (b i : Nat) (v : Value) : stW w ⟨b, i, none⟩ 0 [v] = w.setCell ⟨b, i, none⟩ v := by
  show w.setCell ((⟨b, i, none⟩ : Addr).add 0) v = _
  rw [add_mk, Nat.add_zero]
theorem stOK_one (w : World) (b i : Nat) (v : Value) : stOK w ⟨b, i, none⟩ 0 [v] = ((w.cell? ⟨b, i, none⟩).isSome = true ∧ w.frozen? ⟨b, i, none⟩ = false ∧ v.oneCell' = true ∧ True) := by
  show ((w.cell? ((⟨b, i, none⟩ : Addr).add 0)).isSome = true ∧ w.frozen? ((⟨b, i, none⟩ : Addr).add 0) = false ∧ _) = _
  rw [add_mk, Nat.add_zero]; rfl
/-- 'append(s, t...)' over a slice of one's own. -/
theorem OPW_appKS {P : Program} {w : World} {B e n : Nat} {v : Value} {xs : List Value} {o : Oper} {f : Array Value} {K' : Value → World → Prop} {s x : Operand} {t : TypeId} {bytes : Nat} {zc : List Value} {us : List Value} {A : Option Addr} {c : Nat}
    (ho : o.op = .call { callee := .builtin .append, args := #[s, x], argTypes := #[t, t] }) (hi : apI P t = some (e, 1, bytes, zc))
    (hs : evo f s = v) (hx : evo f x = .slice A us.length c) (hu : Rd w A us) (hu0 : 0 < us.length) (h1 : ∀ u ∈ us, u.oneCell' = true)
    (hown : OwnK w B e 1 n v xs) (hbase : B ≤ w.heap.size) (hn : n + us.length ≤ 100000) (hb : bytes ≤ 1024)
    (hk : ∀ v' w', OwnK w' B e 1 (n + us.length) v' (xs ++ us) → w.grownBy w' v.ownBlock → Stays w v v' → Now (K' v' w')) : OPW P o f w K' := by
  obtain ⟨A0, c0, rfl, hown⟩ := hown
  obtain ⟨b, off, rfl, hlt, hc⟩ := hu hu0
  obtain ⟨i, z, h2, h3, h4, h5, h6, h7, h8, _⟩ := apI_spec hi
  intro X K Q hK
  refine op_lift X (by rw [ho]; intro c h; cases h) ?_
  have hcells : ∀ j u, us[j]? = some u → w.cell? ((⟨b, off, none⟩ : Addr).add j) = some u := by
    intro j u hu
    rw [add_mk, hc j (List.getElem?_eq_some_iff.1 hu).1, hu]
  obtain ⟨v', w', hrun, g1, g2, g3, g4⟩ := run_append_own_at (P := P) w B t o.type e i z 1 bytes h2 h3 h4 h5 h6 h7 h8 (.slice A0 n c0) n xs hown ⟨b, off, none⟩ us.length c us (by simp) hcells h1
    (by simp only [maxLen]; omega) (Nat.le_trans (Nat.mul_le_mul hn hb) (by omega)) hbase
  obtain ⟨A', c', rfl⟩ := own_slice g1
  rw [evo_eq f X.ds] at hs hx
  have := hK _ w' (hk _ w' ⟨A', c', rfl, g1⟩ g2 (g4.imp id fun h => ⟨_, h, by simp⟩))
  unfold Oper.wp execOp
  simp only [ho, resolve, invoke, builtin, Sem.run_bind, Sem.run_pure, Result.andThen_ok, List.map_toArray, List.map_cons, List.map_nil, hs, hx, hrun]
  exact this
/-- A slice of structs just laid. -/
theorem OwnK.lit {B : Nat} (w : World) (e : TypeId) (size n : Nat) (us : List Value) (hb : B ≤ w.heap.size) (hm : n ≤ maxLen) (hs : us.length = n * size) : OwnK (w.alloc (.cells us.toArray e)) B e size n (.slice (some ⟨w.heap.size, 0, none⟩) n n) us :=
  ⟨_, _, rfl, World.ownsRow_lit w _ _ hb hm (by simpa using hs)⟩

theorem OwnK.stW {B : Nat} {e : TypeId} {size n g m c : Nat} : ∀ (vs : List Value) (w : World) (xs : List Value) (i : Nat), OwnK w B e size n (.slice (some ⟨g, 0, none⟩) m c) xs → i + vs.length ≤ xs.length → OwnK (VC.stW w ⟨g, 0, none⟩ i vs) B e size n (.slice (some ⟨g, 0, none⟩) m c) (xs.take i ++ vs ++ xs.drop (i + vs.length))
  | [], w, xs, i, h, hl => by
    show OwnK w _ _ _ _ _ _
    simpa using h
  | v :: vs, w, xs, i, h, hl => by
    rw [List.length_cons] at hl
    have hi : i < xs.length := by omega
    have h3 := OwnK.stW vs (w.setCell ⟨g, i, none⟩ v) (xs.set i v) (i + 1) (h.stored i v) (by rw [List.length_set]; omega)
    rw [stW_cons]
    have e : (xs.set i v).take (i + 1) ++ vs ++ (xs.set i v).drop (i + 1 + vs.length) = xs.take i ++ (v :: vs) ++ xs.drop (i + (v :: vs).length) := by
      rw [List.take_succ_eq_append_getElem (by rw [List.length_set]; exact hi), List.getElem_set_self, List.take_set_of_le (Nat.le_refl i), List.drop_set_of_lt (by omega), List.length_cons]
      simp [Nat.add_assoc, Nat.add_comm 1]
    rw [e] at h3
    exact h3
theorem OwnK.stAll {w : World} {B : Nat} {e : TypeId} {size n g m c : Nat} {xs vs : List Value} (h : OwnK w B e size n (.slice (some ⟨g, 0, none⟩) m c) xs) (hl : vs.length = xs.length) : OwnK (VC.stW w ⟨g, 0, none⟩ 0 vs) B e size n (.slice (some ⟨g, 0, none⟩) m c) vs := by
  have h3 := OwnK.stW vs w xs 0 h (by omega)
  rw [List.take_zero, List.nil_append, Nat.zero_add, hl, List.drop_length, List.append_nil] at h3
  exact h3

structure FE where
  e : TypeId
  size : Nat
  n : Nat
  v : Value
  xs : List Value
def Fam (w : World) (B : Nat) (F : Nat → Option FE) : Prop :=
  (∀ k x, F k = some x → OwnK w B x.e x.size x.n x.v x.xs) ∧ ∀ k l x y, k ≠ l → F k = some x → F l = some y → Sep x.v y.v
section
variable {w w' : World} {B : Nat} {F : Nat → Option FE}
theorem Fam.nil (w : World) (B : Nat) : Fam w B fun _ => none := ⟨fun k x h => (by cases h), fun k l x y _ h => (by cases h)⟩
theorem Fam.keep (h : Fam w B F) (hb : ∀ k x g, F k = some x → x.v.ownBlock = some g → w'.heap[g]? = w.heap[g]?) : Fam w' B F := ⟨fun k x hk => (h.1 k x hk).keep fun g hg => hb k x g hk hg, h.2⟩
theorem Fam.below (h : Fam w B F) (hB : Below w.heap.size w w') : Fam w' B F := ⟨fun k x hk => (h.1 k x hk).below hB, h.2⟩
theorem Fam.drewN (h : Fam w B F) (u : Nat) : Fam (w.drewN u) B F := h
theorem Fam.agree {X : Nat → Prop} (h : Fam w B F) (hA : Agree X w w') (hX : ∀ j, j < w.heap.size → X j → j < B) : Fam w' B F :=
  h.keep fun k x g hk hg => hA.block g ((h.1 k x hk).lt hg).2 fun hx => by
    have := hX g ((h.1 k x hk).lt hg).2 hx
    have := ((h.1 k x hk).lt hg).1
    omega
theorem Fam.drop {F' : Nat → Option FE} (h : Fam w B F) (hs : ∀ k x, F' k = some x → F k = some x) : Fam w B F' := ⟨fun k x hk => h.1 k x (hs k x hk), fun k l x y hkl hk hl => h.2 k l x y hkl (hs k x hk) (hs l y hl)⟩
theorem Fam.far (h : Fam w B F) {a : Addr} (ha : a.block < B) (u : Value) : Fam (w.setCell a u) B F :=
  h.agree (X := fun j => j = a.block) (Agree.setCell w u rfl) fun j _ hj => hj ▸ ha
/-- A new one. -/
theorem Fam.put (h : Fam w B F) (k : Nat) {e : TypeId} {size n : Nat} {v : Value} {xs : List Value} (hB : Below w.heap.size w w') (ho : OwnK w' B e size n v xs) (hv : ∀ g, v.ownBlock = some g → w.heap.size ≤ g) : Fam w' B (upd F k (some ⟨e, size, n, v, xs⟩)) := by
  have hb := h.below hB
  refine ⟨fun j x hj => ?_, fun j l x y hjl hj hl => ?_⟩
  · unfold upd at hj
    split at hj
    · cases hj; exact ho
    · exact hb.1 j x hj
  · unfold upd at hj hl
    split at hj
    · rename_i h1
      rw [if_neg (fun e => hjl (h1.trans e.symm))] at hl
      cases hj
      exact Sep.symm fun g h3 h4 => by
        have := ((h.1 l y hl).lt h3).2
        have := hv g h4
        omega
    · split at hl
      · cases hl
        exact fun g h3 h4 => by
          have := ((h.1 j x hj).lt h3).2
          have := hv g h4
          omega
      · exact hb.2 j l x y hjl hj hl
/-- One of them grows. -/
theorem Fam.grow (h : Fam w B F) {k : Nat} {x : FE} (hk : F k = some x) {e : TypeId} {size n : Nat} {v : Value} {xs : List Value} (hg : w.grownBy w' x.v.ownBlock) (ho : OwnK w' B e size n v xs) (hst : Stays w x.v v) : Fam w' B (upd F k (some ⟨e, size, n, v, xs⟩)) := by
  refine ⟨fun j y hj => ?_, fun j l y z hjl hj hl => ?_⟩
  · unfold upd at hj
    split at hj
    · cases hj; exact ho
    · rename_i hjk
      exact (h.1 j y hj).grown hg fun g hy => h.2 j k y x hjk hj hk g hy
  · unfold upd at hj hl
    split at hj
    · rename_i h1
      rw [if_neg (fun e => hjl (h1.trans e.symm))] at hl
      cases hj
      exact ((h.1 l z hl).sep_stays (h.2 l k z x (fun e => hjl (h1.trans e.symm)) hl hk) hst).symm
    · rename_i h1
      split at hl
      · cases hl
        exact (h.1 j y hj).sep_stays (h.2 j k y x h1 hj hk) hst
      · exact h.2 j l y z hjl hj hl
/-- The blocks of all of them. -/
def FamX (F : Nat → Option FE) (j : Nat) : Prop := ∃ k x, F k = some x ∧ x.v.ownBlock = some j
end

/-- The frame f0, but what D names as g says. -/
def setD (g : Nat → Value) : List Nat → Array Value → Array Value
  | [], f => f
  | t :: D, f => setD g D (f.setIfInBounds t (g t))
theorem setD_size {g : Nat → Value} : ∀ (D : List Nat) (f : Array Value), (setD g D f).size = f.size
  | [], f => rfl
  | t :: D, f => by rw [setD, setD_size D]; simp
theorem setD_getD {g : Nat → Value} : ∀ (D : List Nat) (f : Array Value) (t : Nat), (∀ d ∈ D, d < f.size) → (setD g D f).getD t undef = if t ∈ D then g t else f.getD t undef
  | [], f, t, _ => by simp [setD]
  | d :: D, f, t, h => by
    rw [setD, setD_getD D _ t (by intro x hx; simpa using h x (by simp [hx]))]
    have hd := h d (by simp)
    by_cases h1 : t ∈ D
    · simp [h1]
    · rw [if_neg h1]
      by_cases h2 : t = d
      · subst h2; simp [hd]
      · rw [if_neg (by simp [h1, h2])]
        simp [Array.getElem?_setIfInBounds, Ne.symm h2]
theorem setD_eq {g : Nat → Value} {D : List Nat} {f0 f : Array Value} (hs : f.size = f0.size) (hD : ∀ d ∈ D, d < f0.size) (h : ∀ t, t ∉ D → f.getD t undef = f0.getD t undef) (hg : ∀ t, t ∈ D → f.getD t undef = g t) : f = setD g D f0 := by
  apply Array.ext
  · rw [setD_size, hs]
  · intro i h1 h2
    have e := setD_getD (g := g) D f0 i hD
    have e1 : (setD g D f0).getD i undef = (setD g D f0)[i] := by simp [h2]
    have e2 : f.getD i undef = f[i] := by simp [h1]
    have e3 : f.getD i undef = (setD g D f0).getD i undef := by
      by_cases hm : i ∈ D
      · rw [e, if_pos hm]; exact hg i hm
      · rw [e, if_neg hm]; exact h i hm
    exact e2.symm.trans (e3.trans e1)

section
variable {P : Program} {ops : Array Oper} {L : Nat} {S : World → Prop} {ok : Nat → Prop} {Q : Array Value → World → Prop}
def dstB (ops : Array Oper) (D : List Nat) (n i : Nat) : Bool := match ops[i]? with | some o => (match o.dst with | some d => D.contains d && decide (d < n) | none => false) | none => false
/-- What is known of an operation: what it does, where its answer goes, for whom it waits. -/
def OpIs (ops : Array Oper) (i : Nat) (op : Op) (d : Nat) (deps : List Nat) : Prop := ∃ o, ops[i]? = some o ∧ o.op = op ∧ o.dst = some d ∧ ∀ j ∈ deps, ∃ e ∈ o.after, Region.binds .any e = true ∧ e.on = j
theorem OpIs.mk0 {ops : Array Oper} {i d : Nat} {op : Op} {o : Oper} (h1 : ops[i]? = some o) (h2 : o.op = op) (h3 : o.dst = some d) : OpIs ops i op d [] := ⟨o, h1, h2, h3, fun j hj => by cases hj⟩
theorem OpIs.mk1 {ops : Array Oper} {i d j : Nat} {op : Op} {o : Oper} (h1 : ops[i]? = some o) (h2 : o.op = op) (h3 : o.dst = some d) (h4 : (o.after.any fun e => Region.binds .any e && e.on == j) = true) : OpIs ops i op d [j] :=
  ⟨o, h1, h2, h3, fun j' hj => by
    rw [List.mem_singleton] at hj
    subst hj
    obtain ⟨k, hk, hb⟩ := Array.any_eq_true.1 h4
    simp only [Bool.and_eq_true, beq_iff_eq] at hb
    exact ⟨_, Array.getElem_mem hk, hb.1, hb.2⟩⟩
theorem OpIs.use {ops : Array Oper} {i d : Nat} {op : Op} {deps : List Nat} (h : OpIs ops i op d deps) {o : Oper} {H : List Nat} (ho : ops[i]? = some o) (hdep : ∀ e ∈ o.after, Region.binds .any e = true → e.on ∉ H) : o.op = op ∧ o.dst = some d ∧ ∀ j ∈ deps, j ∉ H := by
  obtain ⟨o', h1, h2, h3, h4⟩ := h
  rw [ho] at h1
  cases h1
  exact ⟨h2, h3, fun j hj => by obtain ⟨e, he, hb, rfl⟩ := h4 j hj; exact hdep e he hb⟩
theorem eff_build1 {P : Program} {o : Oper} {f : Array Value} {w : World} {K' : Value → World → Prop} {t e : TypeId} {x : Operand} {z u : Value} (ho : o.op = .buildSlice t 1 #[(0, x)]) (he : elo P t = some (1, e)) (hz : zco P e = some [z]) (hk : kOf P t = .s) (hx : evo f x = u) (hu : u.cells = #[u])
    (h : K' (.slice (some ⟨w.heap.size, 0, none⟩) 1 1) (w.alloc (.cells #[u] e))) : eff P o f w K' := by
  unfold eff
  rw [ho]
  simp only [he, hz, hk, Option.getD_some]
  simp only [hx, List.map_cons, List.map_nil, List.range_one, Nat.zero_mul, fillL, List.getElem?_cons_zero, hu]
  simp [putL]
  exact h
theorem eff_app {P : Program} {o : Oper} {f : Array Value} {w : World} {K' : Value → World → Prop} {c : Call} (ho : o.op = .call c) (hc : c.callee = .builtin .append) (h : OPW P o f w K') : eff P o f w K' := by
  unfold eff
  rw [ho]
  have e : callee f c = none := by unfold callee; rw [hc]
  simp only [e, hc]
  exact h
theorem eff_fieldAddr {P : Program} {o : Oper} {f : Array Value} {w : World} {K' : Value → World → Prop} {t ft : TypeId} {x : Operand} {fl off z : Nat} {b i : Nat} (ho : o.op = .fieldAddr t x fl) (hf : fldo P t fl = some (off, z, ft)) (hz : z ≠ 0) (hx : evo f x = .pointer (some ⟨b, i, none⟩))
    (h : K' (.pointer (some ⟨b, i + off, none⟩)) w) : eff P o f w K' := by
  unfold eff
  rw [ho]
  simp only [opP, pv, ho, hf, hx, add_mk]
  exact ⟨hz, h⟩
theorem eff_load {P : Program} {o : Oper} {f : Array Value} {w : World} {K' : Value → World → Prop} {t : TypeId} {x : Operand} {a : Addr} {v : Value} (ho : o.op = .load t x) (ha : isAggB P t = false) (hk : knownB P t = true) (hx : evo f x = .pointer (some a)) (hc : w.cell? a = some v) (hv : rdK w a (kOf P t) = v)
    (h : K' v w) : eff P o f w K' := by
  unfold eff
  rw [ho]
  simp only [opP, pv, ho, hx, ldv, ha, hk, hv, hc]
  exact ⟨⟨trivial, trivial⟩, h⟩
/-- Those of G in any order; D the slots that they write; J what holds while those of H are to come. -/
theorem heldF_anyD {G : List Nat} {r : HPlan} {f0 : Array Value} {w : World} (D : List Nat) (J : List Nat → (Nat → Value) → World → Prop) (hG : (G.all (dstB ops D f0.size) && D.all fun d => decide (d < f0.size)) = true) (h0 : J G (fun t => f0.getD t undef) w)
    (hst : ∀ H i o f w, (∀ j ∈ H, j ∈ G) → (∀ t, t ∉ D → f.getD t undef = f0.getD t undef) → J H (fun t => f.getD t undef) w → i ∈ H → ops[i]? = some o → (∀ e ∈ o.after, Region.binds .any e = true → e.on ∉ H) →
      Now (eff P o f w fun v w' => S w' ∧ J (H.filter (· != i)) (fun t => if o.dst = some t then v else f.getD t undef) w'))
    (hend : ∀ g w, J [] g w → Now (heldF P ops L S ok Q r (setD g D f0) w)) : heldF P ops L S ok Q (.any G r) f0 w := by
  rw [Bool.and_eq_true] at hG
  obtain ⟨hG, hD⟩ := hG
  have hD' : ∀ d ∈ D, d < f0.size := fun d hd => by simpa using List.all_eq_true.1 hD d hd
  refine heldF_any (fun H f w => (∀ j ∈ H, j ∈ G) ∧ f.size = f0.size ∧ (∀ t, t ∉ D → f.getD t undef = f0.getD t undef) ∧ J H (fun t => f.getD t undef) w) ⟨fun j hj => hj, rfl, fun t _ => rfl, h0⟩ ?_ ?_
  · rintro H i o f w ⟨hH, hs, hf, hJ⟩ hi ho hdep
    have hd := List.all_eq_true.1 hG i (hH i hi)
    unfold dstB at hd
    simp only [ho] at hd
    cases hdst : o.dst with
    | none => simp [hdst] at hd
    | some d =>
      simp only [hdst, Bool.and_eq_true, decide_eq_true_eq] at hd
      have h1 : eff P o f w fun v w' => S w' ∧ J (H.filter (· != i)) (fun t => if o.dst = some t then v else f.getD t undef) w' := hst H i o f w hH hf hJ hi ho hdep
      have key : ∀ v, (fun t => (put o.dst f v).getD t undef) = fun t => if o.dst = some t then v else f.getD t undef := fun v => by
        funext t
        rw [hdst]
        show (f.setIfInBounds d v).getD t undef = _
        by_cases ht : d = t
        · subst ht
          rw [if_pos rfl]
          have hlt : d < f.size := Nat.lt_of_lt_of_eq hd.2 hs.symm
          simp [hlt]
        · rw [if_neg (by simpa using ht)]
          simp [Array.getElem?_setIfInBounds, ht]
      have hDd : d ∈ D := by simpa using hd.1
      have ek : (fun (v : Value) (w' : World) => S w' ∧ J (H.filter (· != i)) (fun t => if o.dst = some t then v else f.getD t undef) w') = fun v w' => S w' ∧ ((∀ j ∈ H.filter (· != i), j ∈ G) ∧ (put (some d) f v).size = f0.size ∧ (∀ t, t ∉ D → (put (some d) f v).getD t undef = f0.getD t undef) ∧ J (H.filter (· != i)) (fun t => (put (some d) f v).getD t undef) w') := by
        funext v w'
        have kv := key v
        rw [hdst] at kv
        rw [hdst, kv]
        refine propext ⟨fun hk => ⟨hk.1, fun j hj => hH j (List.mem_filter.1 hj).1, by rw [put_size]; exact hs, fun t ht => ?_, hk.2⟩, fun hk => ⟨hk.1, hk.2.2.2.2⟩⟩
        have kt : (put (some d) f v).getD t undef = _ := congrFun kv t
        rw [kt, if_neg (by simp; rintro rfl; exact ht hDd)]
        exact hf t ht
      rw [ek] at h1
      exact h1
  · rintro f w ⟨_, hs, hf, hJ⟩
    have e := setD_eq (g := fun t => f.getD t undef) hs hD' hf fun t _ => rfl
    have h2 : heldF P ops L S ok Q r (setD (fun t => f.getD t undef) D f0) w := hend _ w hJ
    rw [← e] at h2
    exact h2
end
end Go.VC
