/- A picture of what moves: what lies in the program's memory. -/
import Derived.Test.YtelfmhiaafkimaaFa
import Derived.Test.YtelfmhiaafkimaaFamHp2
import Derived.Test.YtelfmhiaafkimaaSnapInv
namespace Go.Proofs.Ytelfmhiaafkimaa
open Go Go.RowKit Go.VC
set_option linter.unusedSimpArgs false
set_option linter.unusedVariables false
theorem laidOut : laidOutB Try.prog = true := by kernel_rfl
noncomputable abbrev EW : KE Try.prog 154 (Int × Int) := KE.two laidOut (by kernel_rfl)
abbrev nilS : Value := .slice none 0 0
abbrev ptrV (b : Nat) : Value := .pointer (some ⟨b, 0, none⟩)
abbrev iV (x : Int) : Value := .int .i64 x
theorem EW_ok {i j : Nat} (hi : i ≤ 1000) (hj : j ≤ 1000) : EW.ok ((i : Int), (j : Int)) := fun x hx => by
  simp only [List.mem_cons, List.not_mem_nil, or_false] at hx
  rcases hx with rfl | rfl
  · exact fits_i64 (by omega) (by omega)
  · exact fits_i64 (by omega) (by omega)
theorem idx_lt {n a b : Nat} (ha : a < n) (hb : b < n) : a * n + b < n * n := by
  have : (a + 1) * n ≤ n * n := Nat.mul_le_mul_right n ha
  rw [Nat.succ_mul] at this; omega
theorem idx_div {n a b : Nat} (hb : b < n) : (a * n + b) / n = a ∧ (a * n + b) % n = b := by
  have hn : 0 < n := by omega
  refine ⟨?_, ?_⟩
  · rw [Nat.mul_comm, Nat.mul_add_div hn, Nat.div_eq_of_lt hb, Nat.add_zero]
  · rw [Nat.mul_comm, Nat.mul_add_mod, Nat.mod_eq_of_lt hb]
def oNone : Ob := ⟨none, fun _ => True, fun _ _ _ _ _ _ => trivial, fun _ _ _ h => by cases h⟩
structure NA where
  wb : Nat
  gp : Nat
  gc : Nat
  mb : Nat
  cnt : Nat
  xb : Nat → Nat
structure NV where
  qv : Nat → Value
  nv : Nat → Value
/-- What the program keeps: ways by their number. -/
structure NP where
  money : Nat → Int
  own : Nat → Int
  que : Nat → List Int
  nts : Nat → List Int
  clo : Nat → Bool
def wayM (n : Nat) (xb : Nat → Nat) : Int × Int → Option Value := fun x => if ((0 ≤ x.1 ∧ x.1 < n) ∧ (0 ≤ x.2 ∧ x.2 < n)) ∧ x.1 ≠ x.2 then some (ptrV (xb (x.1.toNat * n + x.2.toNat))) else none
theorem wayM_at {n i j : Nat} {xb : Nat → Nat} (hi : i < n) (hj : j < n) (h : i ≠ j) : wayM n xb ((i : Int), (j : Int)) = some (ptrV (xb (i * n + j))) := by
  unfold wayM
  rw [if_pos ⟨⟨⟨by simp, by simpa using hi⟩, ⟨by simp, by simpa using hj⟩⟩, fun e => h (by omega)⟩]
  simp
theorem wayM_key {n : Nat} {xb : Nat → Nat} {x : Int × Int} {v : Value} (h : wayM n xb x = some v) : ∃ i j : Nat, i < n ∧ j < n ∧ i ≠ j ∧ x = ((i : Int), (j : Int)) ∧ v = ptrV (xb (i * n + j)) := by
  unfold wayM at h
  split at h
  · rename_i hh
    obtain ⟨x1, x2⟩ := x
    obtain ⟨⟨⟨h1, h2⟩, ⟨h3, h4⟩⟩, h5⟩ := hh
    simp only at h1 h2 h3 h4 h5
    refine ⟨x1.toNat, x2.toNat, by omega, by omega, by omega, ?_, (Option.some.inj h).symm⟩
    rw [Int.toNat_of_nonneg h1, Int.toNat_of_nonneg h3]
  · cases h
abbrev prL (p : NP) (i : Nat) : List Value := [iV (p.money i), iV (p.own i)]
noncomputable abbrev headO (n : Nat) (a : NA) (p : NP) : List Ob := [oBox a.wb [.slice (some ⟨a.gp, 0, none⟩) n a.gc, .map (some a.mb)], oRecs a.gp n 2 fun i => prL p i, oMap EW a.mb a.cnt (wayM n a.xb)]
def wayF (n : Nat) (a : NA) (p : NP) (v : NV) (t : Nat) : Ob := if t / n = t % n then oNone else oBox (a.xb t) [v.qv t, v.nv t, .bool (p.clo t)]
noncomputable abbrev queF (p : NP) (v : NV) (t : Nat) : Ob := oQ 3 (v.qv t) ((p.que t).map iV)
noncomputable abbrev notF (p : NP) (v : NV) (t : Nat) : Ob := oOwn 3 1 (p.nts t).length (v.nv t) ((p.nts t).map iV)
noncomputable abbrev NObs (n : Nat) (a : NA) (p : NP) (v : NV) : List Ob := headO n a p ++ (fam (n * n) (wayF n a p v) ++ (fam (n * n) (queF p v) ++ fam (n * n) (notF p v)))
theorem fam_turn {N t : Nat} {F G : Nat → Ob} {o : Ob} (h1 : G t = o) (h2 : ∀ i, i < N → i ≠ t → G i = F i) : fam N (upd F t o) = fam N G := fam_congr fun i hi => by
  by_cases e : i = t
  · subst e; rw [upd_same, h1]
  · rw [upd_other e, h2 i hi e]
theorem wayF_ne {n t : Nat} {a : NA} {p : NP} {v : NV} (h : t / n ≠ t % n) : wayF n a p v t = oBox (a.xb t) [v.qv t, v.nv t, .bool (p.clo t)] := if_neg h
theorem wayF_congr {n t : Nat} {a : NA} {p p' : NP} {v v' : NV} (h1 : v'.qv t = v.qv t) (h2 : v'.nv t = v.nv t) (h3 : p'.clo t = p.clo t) : wayF n a p' v' t = wayF n a p v t := by
  unfold wayF; rw [h1, h2, h3]
section
variable {B n t : Nat} {a : NA} {p : NP} {v : NV} {w w' : World}
theorem NObs.box (h : Hp B (NObs n a p v) w) (ht : t < n * n) (hd : t / n ≠ t % n) : Box w (a.xb t) [v.qv t, v.nv t, .bool (p.clo t)] := by
  have := h.fget ht
  rw [wayF_ne hd] at this
  exact this
theorem NObs.assoc2 : NObs n a p v = (headO n a p ++ fam (n * n) (wayF n a p v)) ++ (fam (n * n) (queF p v) ++ fam (n * n) (notF p v)) := by
  unfold NObs; rw [List.append_assoc]
theorem NObs.assoc3 : NObs n a p v = ((headO n a p ++ fam (n * n) (wayF n a p v)) ++ fam (n * n) (queF p v)) ++ (fam (n * n) (notF p v) ++ []) := by
  unfold NObs; rw [List.append_assoc, List.append_assoc, List.append_nil]
theorem NObs.que (h : Hp B (NObs n a p v) w) (ht : t < n * n) : OwnQ w 3 (v.qv t) ((p.que t).map iV) := by
  rw [NObs.assoc2] at h; exact h.fget ht
theorem NObs.nts (h : Hp B (NObs n a p v) w) (ht : t < n * n) : OwnK w 0 3 1 (p.nts t).length (v.nv t) ((p.nts t).map iV) := by
  rw [NObs.assoc3] at h; exact h.fget ht
/-- A way's box takes new cells, and what they hold has turned. -/
theorem NObs.way (ht : t < n * n) (hd : t / n ≠ t % n) {R : List Ob} (h : Hp B (headO n a p ++ (fam (n * n) (wayF n a p v) ++ R)) w) {p' : NP} {v' : NV} {j : Nat} {u : Value}
    (hs : [v.qv t, v.nv t, Value.bool (p.clo t)].set j u = [v'.qv t, v'.nv t, Value.bool (p'.clo t)]) (h1 : ∀ i, i ≠ t → v'.qv i = v.qv i) (h2 : ∀ i, i ≠ t → v'.nv i = v.nv i) (h3 : ∀ i, i ≠ t → p'.clo i = p.clo i) :
    St B (headO n a p ++ (fam (n * n) (wayF n a p v) ++ R)) w (headO n a p ++ (fam (n * n) (wayF n a p' v') ++ R)) (w.setCell ⟨a.xb t, j, none⟩ u) := by
  have bx : Box w (a.xb t) [v.qv t, v.nv t, .bool (p.clo t)] := by
    have := h.fget ht
    rw [wayF_ne hd] at this
    exact this
  have s3 := h.fst ht (o' := oBox (a.xb t) ([v.qv t, v.nv t, Value.bool (p.clo t)].set j u)) (w' := w.setCell ⟨a.xb t, j, none⟩ u) (bx.set j u) (Agree.setCell w u (by show (wayF n a p v t).blk = _; rw [wayF_ne hd]; rfl)) (Or.inl (by show _ = (wayF n a p v t).blk; rw [wayF_ne hd]; rfl))
  rw [fam_turn (G := wayF n a p' v') (by rw [hs]; exact wayF_ne hd) fun i _ hi => wayF_congr (h1 i hi) (h2 i hi) (h3 i hi)] at s3
  exact s3
/-- A queue has grown, and is told so. -/
theorem NObs.grow (h : Hp B (NObs n a p v) w) (ht : t < n * n) (hd : t / n ≠ t % n) {v7 : Value} {xs : List Int} (ho : OwnQ w' 3 v7 (xs.map iV)) (hg : w.grownBy w' (v.qv t).ownBlock) (hs : Stays w (v.qv t) v7) :
    ((w'.cell? ⟨a.xb t, 0, none⟩).isSome = true ∧ w'.frozen? ⟨a.xb t, 0, none⟩ = false) ∧ St B (NObs n a p v) w (NObs n a { p with que := upd p.que t xs } { v with qv := upd v.qv t v7 }) (w'.setCell ⟨a.xb t, 0, none⟩ v7) := by
  have h' := h
  rw [NObs.assoc2] at h'
  have s1 := h'.fst ht (o' := oQ 3 v7 (xs.map iV)) ho (Agree.grown hg fun k hk => hk) (hs.imp id fun ⟨g, h1, h2⟩ => fun g' h3 => by rw [show (oQ 3 v7 (xs.map iV)).blk = v7.ownBlock from rfl, h1] at h3; cases h3; exact h2)
  rw [fam_turn (G := queF { p with que := upd p.que t xs } { v with qv := upd v.qv t v7 }) (by show oQ 3 (upd v.qv t v7 t) ((upd p.que t xs t).map iV) = _; rw [upd_same, upd_same]) (fun i _ hi => by show oQ 3 (upd v.qv t v7 i) ((upd p.que t xs i).map iV) = _; rw [upd_other hi, upd_other hi])] at s1
  simp only [List.append_assoc] at s1
  have s1 : St B (NObs n a p v) w (headO n a p ++ (fam (n * n) (wayF n a p v) ++ (fam (n * n) (queF { p with que := upd p.que t xs } { v with qv := upd v.qv t v7 }) ++ fam (n * n) (notF p v)))) w' := s1
  have bx : Box w' (a.xb t) [v.qv t, v.nv t, .bool (p.clo t)] := by
    have := s1.hp.fget ht
    rw [wayF_ne hd] at this
    exact this
  refine ⟨⟨by rw [bx.at (i := 0) rfl]; rfl, bx.soft (i := 0) (by show 0 < 3; omega)⟩, ?_⟩
  have s2 := NObs.way ht hd s1.hp (p' := { p with que := upd p.que t xs }) (v' := { v with qv := upd v.qv t v7 }) (j := 0) (u := v7) (by show [v7, v.nv t, Value.bool (p.clo t)] = [upd v.qv t v7 t, v.nv t, Value.bool (p.clo t)]; rw [upd_same]) (fun i hi => upd_other hi) (fun i hi => rfl) (fun i hi => rfl)
  exact s1.trans s2
/-- A queue's head is cut off. -/
theorem NObs.cut (h : Hp B (NObs n a p v) w) (ht : t < n * n) (hd : t / n ≠ t % n) {v7 : Value} {xs : List Int} (ho : OwnQ w 3 v7 (xs.map iV)) (hb : v7.ownBlock = (v.qv t).ownBlock) :
    St B (NObs n a p v) w (NObs n a { p with que := upd p.que t xs } { v with qv := upd v.qv t v7 }) (w.setCell ⟨a.xb t, 0, none⟩ v7) := by
  have h' := h
  rw [NObs.assoc2] at h'
  have s1 := h'.fst ht (o' := oQ 3 v7 (xs.map iV)) ho (Agree.refl _ _) (Or.inl hb)
  rw [fam_turn (G := queF { p with que := upd p.que t xs } { v with qv := upd v.qv t v7 }) (by show oQ 3 (upd v.qv t v7 t) ((upd p.que t xs t).map iV) = _; rw [upd_same, upd_same]) (fun i _ hi => by show oQ 3 (upd v.qv t v7 i) ((upd p.que t xs i).map iV) = _; rw [upd_other hi, upd_other hi])] at s1
  simp only [List.append_assoc] at s1
  have s1 : St B (NObs n a p v) w (headO n a p ++ (fam (n * n) (wayF n a p v) ++ (fam (n * n) (queF { p with que := upd p.que t xs } { v with qv := upd v.qv t v7 }) ++ fam (n * n) (notF p v)))) w := s1
  have s2 := NObs.way ht hd s1.hp (p' := { p with que := upd p.que t xs }) (v' := { v with qv := upd v.qv t v7 }) (j := 0) (u := v7) (by show [v7, v.nv t, Value.bool (p.clo t)] = [upd v.qv t v7 t, v.nv t, Value.bool (p.clo t)]; rw [upd_same]) (fun i hi => upd_other hi) (fun i hi => rfl) (fun i hi => rfl)
  exact s1.trans s2
/-- What is noted of a way has grown. -/
theorem NObs.noted (h : Hp B (NObs n a p v) w) (ht : t < n * n) (hd : t / n ≠ t % n) {v7 : Value} {xs : List Int} {B' : Nat} (ho : OwnK w' B' 3 1 xs.length v7 (xs.map iV)) (hg : w.grownBy w' (v.nv t).ownBlock) (hs : Stays w (v.nv t) v7) :
    ((w'.cell? ⟨a.xb t, 1, none⟩).isSome = true ∧ w'.frozen? ⟨a.xb t, 1, none⟩ = false) ∧ St B (NObs n a p v) w (NObs n a { p with nts := upd p.nts t xs } { v with nv := upd v.nv t v7 }) (w'.setCell ⟨a.xb t, 1, none⟩ v7) := by
  have h' := h
  rw [NObs.assoc3] at h'
  have s1 := h'.fst ht (o' := oOwn 3 1 xs.length v7 (xs.map iV)) (ho.mono (Nat.zero_le _)) (Agree.grown hg fun k hk => hk) (hs.imp id fun ⟨g, h1, h2⟩ => fun g' h3 => by rw [show (oOwn 3 1 xs.length v7 (xs.map iV)).blk = v7.ownBlock from rfl, h1] at h3; cases h3; exact h2)
  rw [fam_turn (G := notF { p with nts := upd p.nts t xs } { v with nv := upd v.nv t v7 }) (by show oOwn 3 1 (upd p.nts t xs t).length (upd v.nv t v7 t) ((upd p.nts t xs t).map iV) = _; rw [upd_same, upd_same]) (fun i _ hi => by show oOwn 3 1 (upd p.nts t xs i).length (upd v.nv t v7 i) ((upd p.nts t xs i).map iV) = _; rw [upd_other hi, upd_other hi])] at s1
  simp only [List.append_assoc, List.append_nil] at s1
  have s1 : St B (NObs n a p v) w (headO n a p ++ (fam (n * n) (wayF n a p v) ++ (fam (n * n) (queF p v) ++ fam (n * n) (notF { p with nts := upd p.nts t xs } { v with nv := upd v.nv t v7 })))) w' := s1
  have bx : Box w' (a.xb t) [v.qv t, v.nv t, .bool (p.clo t)] := by
    have := s1.hp.fget ht
    rw [wayF_ne hd] at this
    exact this
  refine ⟨⟨by rw [bx.at (i := 1) rfl]; rfl, bx.soft (i := 1) (by show 1 < 3; omega)⟩, ?_⟩
  have s2 := NObs.way ht hd s1.hp (p' := { p with nts := upd p.nts t xs }) (v' := { v with nv := upd v.nv t v7 }) (j := 1) (u := v7) (by show [v.qv t, v7, Value.bool (p.clo t)] = [v.qv t, upd v.nv t v7 t, Value.bool (p.clo t)]; rw [upd_same]) (fun i hi => rfl) (fun i hi => upd_other hi) (fun i hi => rfl)
  exact s1.trans s2
/-- A way is closed. -/
theorem NObs.close (h : Hp B (NObs n a p v) w) (ht : t < n * n) (hd : t / n ≠ t % n) : St B (NObs n a p v) w (NObs n a { p with clo := upd p.clo t true } v) (w.setCell ⟨a.xb t, 2, none⟩ (.bool true)) :=
  NObs.way ht hd h (p' := { p with clo := upd p.clo t true }) (v' := v) (j := 2) (u := .bool true) (by show [v.qv t, v.nv t, Value.bool true] = [v.qv t, v.nv t, Value.bool (upd p.clo t true t)]; rw [upd_same]) (fun i hi => rfl) (fun i hi => rfl) (fun i hi => upd_other hi)
theorem prL_upd {j : Nat} {p p' : NP} {i : Nat} {l : List Value} (h1 : prL p' i = l) (h2 : ∀ k, k ≠ i → p'.money k = p.money k ∧ p'.own k = p.own k) : (fun x => upd (fun k => prL p k) i l x) = fun k => prL p' k := by
  funext k
  by_cases e : k = i
  · subst e; rw [upd_same, h1]
  · rw [upd_other e]; show [iV (p.money k), iV (p.own k)] = [iV (p'.money k), iV (p'.own k)]; rw [(h2 k e).1, (h2 k e).2]
theorem NObs.pay (h : Hp B (NObs n a p v) w) {i : Nat} (hi : i < n) (x : Int) : St B (NObs n a p v) w (NObs n a { p with money := upd p.money i x } v) (w.setCell ⟨a.gp, i * 2 + 0, none⟩ (iV x)) := by
  have := h.setRec (en := id) (P := fun k => prL p k) 1 rfl hi (j := 0) (by omega) rfl (v := iV x) (p := [iV x, iV (p.own i)]) rfl
  simp only [id] at this
  rw [prL_upd (j := 0) (p := p) (p' := { p with money := upd p.money i x }) (by show [iV (upd p.money i x i), _] = _; rw [upd_same]) (fun k hk => ⟨upd_other hk, rfl⟩)] at this
  exact this
theorem NObs.mine (h : Hp B (NObs n a p v) w) {i : Nat} (hi : i < n) (x : Int) : St B (NObs n a p v) w (NObs n a { p with own := upd p.own i x } v) (w.setCell ⟨a.gp, i * 2 + 1, none⟩ (iV x)) := by
  have := h.setRec (en := id) (P := fun k => prL p k) 1 rfl hi (j := 1) (by omega) rfl (v := iV x) (p := [iV (p.money i), iV x]) rfl
  simp only [id] at this
  rw [prL_upd (j := 0) (p := p) (p' := { p with own := upd p.own i x }) (by show [_, iV (upd p.own i x i)] = _; rw [upd_same]) (fun k hk => ⟨rfl, upd_other hk⟩)] at this
  exact this
theorem NObs.fq (ht : t < n * n) {g : Nat} (hg : (v.qv t).ownBlock = some g) : foot (NObs n a p v) g := by
  rw [NObs.assoc2]; exact foot_at (fam_at (L := headO n a p ++ fam (n * n) (wayF n a p v)) ht) hg
theorem NObs.fn (ht : t < n * n) {g : Nat} (hg : (v.nv t).ownBlock = some g) : foot (NObs n a p v) g := by
  rw [NObs.assoc3]; exact foot_at (fam_at (L := (headO n a p ++ fam (n * n) (wayF n a p v)) ++ fam (n * n) (queF p v)) ht) hg
theorem NObs.fx (ht : t < n * n) (hd : t / n ≠ t % n) : foot (NObs n a p v) (a.xb t) :=
  foot_at (fam_at (L := headO n a p) ht) (by show (wayF n a p v t).blk = _; rw [wayF_ne hd]; rfl)
theorem NObs.mq (h : Hp B (NObs n a p v) w) (ht : t < n * n) : (v.qv t).ownBlock ≠ some a.mb := fun e => by
  rw [NObs.assoc2] at h
  exact h.ne 2 ((headO n a p ++ fam (n * n) (wayF n a p v)).length + t) (by simp; omega) rfl (fam_at ht) a.mb rfl e
theorem NObs.mx (h : Hp B (NObs n a p v) w) (ht : t < n * n) (hd : t / n ≠ t % n) : a.xb t ≠ a.mb := fun e =>
  h.ne 2 ((headO n a p).length + t) (by simp; omega) rfl (fam_at ht) a.mb rfl (by show (wayF n a p v t).blk = _; rw [wayF_ne hd, ← e]; rfl)
end
end Go.Proofs.Ytelfmhiaafkimaa
