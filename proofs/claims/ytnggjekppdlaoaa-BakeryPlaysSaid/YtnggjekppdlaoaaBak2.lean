/- Play: what its loops keep; the three appends at the end. -/
import Derived.Test.YtnggjekppdlaoaaBak1
import Derived.Test.YtnggjekppdlaoaaFam
namespace Go.Proofs.Ytnggjekppdlaoaa
open Go Go.RowKit Go.VC
set_option linter.unusedSimpArgs false
set_option linter.unusedVariables false

/-- Which function one's place runs. -/
def stepF : Nat → FuncId
  | 0 => 27
  | 1 => 28
  | 2 => 29
  | 3 => 30
  | 4 => 31
  | _ => 32
abbrev fnV (g : FuncId) : Value := .func (.func g) #[] #[]
abbrev stL : List Value := [fnV 27, fnV 28, fnV 29, fnV 30, fnV 31, fnV 32]
theorem five {a : Nat} (h : a ≤ 5) : a = 0 ∨ a = 1 ∨ a = 2 ∨ a = 3 ∨ a = 4 ∨ a = 5 := by omega
theorem stL_at {a : Nat} (h : a ≤ 5) : stL[a]? = some (fnV (stepF a)) := by
  rcases five h with rfl | rfl | rfl | rfl | rfl | rfl <;> rfl
theorem callB_step (a : Nat) : VC.callB Try.prog (stepF a) = true := by
  match a with
  | 0 => show VC.callB Try.prog 27 = true; kernel_rfl
  | 1 => show VC.callB Try.prog 28 = true; kernel_rfl
  | 2 => show VC.callB Try.prog 29 = true; kernel_rfl
  | 3 => show VC.callB Try.prog 30 = true; kernel_rfl
  | 4 => show VC.callB Try.prog 31 = true; kernel_rfl
  | n + 5 => show VC.callB Try.prog 32 = true; kernel_rfl
theorem step_any {B sb gp n i t : Nat} {vin : Value} {P : Nat → BP} {inn : List Int} {w : World} (h : Shop B sb gp n vin P inn w) (hB : B ≤ w.heap.size) (hl : inn.length ≤ 1000) (hi : i < n) (hok : ∀ a, BOK n t (P a)) (ht : t ≤ 1000) (hn : n ≤ 1000) :
    StepC (stepF (P i).at') B sb gp n i vin P inn w := by
  rcases five (hok i).1 with h0 | h0 | h0 | h0 | h0 | h0
  · rw [h0]; exact begin_any h hi h0
  · rw [h0]; exact look_any h hi hok ht hn h0
  · rw [h0]; exact chosen_any h hi h0
  · rw [h0]; exact wait_any h hB hl hi hok ht hn h0
  · rw [h0]; exact yield_any h hB hi hok ht hn h0
  · rw [h0]; exact leave_any h hi h0

abbrev nilS : Value := .slice none 0 0
abbrev ints (l : List Int) : List Value := l.map (Value.int .i64)
structure PI (z s0 n : Nat) (v vc : Value) (s : BS) (wx : World) : Prop where
  lo : z + 3 ≤ s0
  shop : Shop (s0 + 2) s0 (z + 2) n v s.p s.inn wx
  st : Box wx (z + 1) stL
  out : Box wx (s0 + 1) [vc, nilS, nilS, nilS, nilS]
  res : Box wx z [nilS, nilS, nilS, nilS, nilS]
  own : OwnK wx (s0 + 2) 27 1 s.codes.length vc (ints s.codes)
  sep : Sep v vc
section
variable {z s0 n : Nat} {v vc : Value} {s : BS} {wx : World}
theorem PI.drewN (h : PI z s0 n v vc s wx) (u : Nat) : PI z s0 n v vc s (wx.drewN u) := ⟨h.lo, h.shop.drewN u, h.st, h.out, h.res, h.own, h.sep⟩
/-- One more code. -/
theorem PI.code {vc' : Value} {w' : World} {x : Int} (h : PI z s0 n v vc s wx) (ho : OwnK w' (s0 + 2) 27 1 (s.codes.length + 1) vc' (ints s.codes ++ [.int .i64 x])) (hg : wx.grownBy w' vc.ownBlock) (hst : Stays wx vc vc') :
    (w'.cell? ⟨s0 + 1, 0, none⟩).isSome = true ∧ w'.frozen? ⟨s0 + 1, 0, none⟩ = false ∧ PI z s0 n v vc' ⟨s.p, s.inn, s.codes ++ [x]⟩ (w'.setCell ⟨s0 + 1, 0, none⟩ vc') := by
  have hag : Agree (fun j => vc.ownBlock = some j) wx w' := Agree.grown hg fun j hj => hj
  have far : ∀ b, b < s0 + 2 → vc.ownBlock ≠ some b := fun b hb e => by have := (h.own.lt e).1; omega
  have lo := h.lo
  have hb := h.out.agree hag (far _ (by omega))
  have hsz : s0 + 2 ≤ wx.heap.size := h.out.1
  have fv : ∀ b, b < s0 + 2 → v.ownBlock ≠ some b := fun b hb e => by have := (h.shop.own.lt e).1; omega
  have fv' : ∀ b, b < s0 + 2 → vc'.ownBlock ≠ some b := fun b hb e => by
    rcases hst with e2 | ⟨g, e2, hg⟩
    · exact far b hb (e2 ▸ e)
    · rw [e2] at e; cases e; omega
  have hsh : Shop (s0 + 2) s0 (z + 2) n v s.p s.inn (w'.setCell ⟨s0 + 1, 0, none⟩ vc') :=
    ⟨(h.shop.box.agree hag (far _ (by omega))).far (by show s0 + 1 ≠ s0; omega) _, (h.shop.rc.agree hag (far _ (by omega))).far (by show s0 + 1 ≠ z + 2; omega) _, (h.shop.own.grown hg (fun g hv => fun e => h.sep g hv e)).setCell (fv (s0 + 1) (by omega)) _, h.shop.apart, h.shop.f1, h.shop.f2⟩
  refine ⟨by rw [hb.at (i := 0) rfl]; rfl, hb.soft (by show 0 < 5; omega), h.lo, hsh, (h.st.agree hag (far _ (by omega))).far (by show s0 + 1 ≠ z + 1; omega) _, hb.set 0 _, (h.res.agree hag (far _ (by omega))).far (by show s0 + 1 ≠ z; omega) _, ?_, h.shop.own.sep_stays h.sep hst⟩
  show OwnK _ _ _ _ (s.codes ++ [x]).length _ ((s.codes ++ [x]).map _)
  rw [List.map_append, List.length_append]
  exact ho.setCell (fv' (s0 + 1) (by omega)) _
/-- One step of one process. -/
theorem PI.step {v' : Value} {w' : World} {p : Nat → BP} {inn : List Int} (h : PI z s0 n v vc s wx) (hs : Shop (s0 + 2) s0 (z + 2) n v' p inn w') (hst : Stays wx v v') (hag : Agree (fun j => j = s0 ∨ j = z + 2 ∨ v.ownBlock = some j) wx w') : PI z s0 n v' vc ⟨p, inn, s.codes⟩ w' := by
  have fv : ∀ b, b < s0 + 2 → v.ownBlock ≠ some b := fun b hb e => by have := (h.shop.own.lt e).1; omega
  have lo := h.lo
  have nx : ∀ b, b < s0 + 2 → b ≠ s0 → b ≠ z + 2 → ¬ (b = s0 ∨ b = z + 2 ∨ v.ownBlock = some b) := fun b hb h1 h2 e => by
    rcases e with e | e | e
    · exact h1 e
    · exact h2 e
    · exact fv b hb e
  refine ⟨lo, hs, h.st.agree hag (nx _ (by omega) (by omega) (by omega)), h.out.agree hag (nx _ (by omega) (by omega) (by omega)), h.res.agree hag (nx _ (by omega) (by omega) (by omega)), h.own.keep fun g hg => hag.block g (h.own.lt hg).2 fun e => ?_, ?_⟩
  · have := (h.own.lt hg).1
    rcases e with e | e | e
    · omega
    · omega
    · exact h.sep g e hg
  · exact (h.own.sep_stays h.sep.symm hst).symm
end

abbrev bools (l : List Bool) : List Value := l.map Value.bool
abbrev atL (P : Nat → BP) (k : Nat) : List Int := (List.range k).map fun i => ((P i).at' : Int)
abbrev tkL (P : Nat → BP) (k : Nat) : List Int := (List.range k).map fun i => ((P i).tk : Int)
abbrev chL (P : Nat → BP) (k : Nat) : List Bool := (List.range k).map fun i => (P i).ch
/-- The five lists of the answer, as they lie in memory. -/
def F5 (v vc va vt vh : Value) (s : BS) (k : Nat) : Nat → Option FE
  | 0 => some ⟨3, 1, s.inn.length, v, ints s.inn⟩
  | 1 => some ⟨27, 1, s.codes.length, vc, ints s.codes⟩
  | 2 => some ⟨3, 1, k, va, ints (atL s.p k)⟩
  | 3 => some ⟨3, 1, k, vt, ints (tkL s.p k)⟩
  | 4 => some ⟨4, 1, k, vh, bools (chL s.p k)⟩
  | _ => none
structure P2 (z s0 n : Nat) (v vc va vt vh : Value) (s : BS) (k : Nat) (wx : World) : Prop where
  lo : z + 3 ≤ s0
  rc : Recs wx (z + 2) n 5 fun a => prC (s.p a)
  sb : Box wx s0 [.slice (some ⟨z + 2, 0, none⟩) n n, v]
  out : Box wx (s0 + 1) [vc, va, vt, vh, nilS]
  res : Box wx z [nilS, nilS, nilS, nilS, nilS]
  fam : Fam wx (s0 + 2) (F5 v vc va vt vh s k)
theorem PI.two {z s0 n : Nat} {v vc : Value} {s : BS} {wx : World} (h : PI z s0 n v vc s wx) : P2 z s0 n v vc nilS nilS nilS s 0 wx := by
  refine ⟨h.lo, h.shop.rc, h.shop.box, h.out, h.res, fun k x hk => ?_, fun k l x y hkl hk hl => ?_⟩
  · match k with
    | 0 => cases hk; exact h.shop.own
    | 1 => cases hk; exact h.own
    | 2 => cases hk; exact OwnK.nil _ _ _ _
    | 3 => cases hk; exact OwnK.nil _ _ _ _
    | 4 => cases hk; exact OwnK.nil _ _ _ _
    | k + 5 => cases hk
  · match k, l with
    | 0, 0 => exact absurd rfl hkl
    | 0, 1 => cases hk; cases hl; exact h.sep
    | 1, 0 => cases hk; cases hl; exact h.sep.symm
    | 1, 1 => exact absurd rfl hkl
    | 2, _ => cases hk; exact (Sep.nil _ _ _).symm
    | 3, _ => cases hk; exact (Sep.nil _ _ _).symm
    | 4, _ => cases hk; exact (Sep.nil _ _ _).symm
    | _, 2 => cases hl; exact Sep.nil _ _ _
    | _, 3 => cases hl; exact Sep.nil _ _ _
    | _, 4 => cases hl; exact Sep.nil _ _ _
    | k + 5, _ => cases hk
    | _, l + 5 => cases hl

theorem OwnK.sl {w : World} {B : Nat} {e : TypeId} {size n : Nat} {v : Value} {xs : List Value} (h : OwnK w B e size n v xs) : ∃ A c, v = .slice A n c := by
  obtain ⟨A, c, rfl, _⟩ := h; exact ⟨A, c, rfl⟩
theorem P2.forms {z s0 n : Nat} {v vc va vt vh : Value} {s : BS} {k : Nat} {wx : World} (h : P2 z s0 n v vc va vt vh s k wx) :
    (∃ A c, v = .slice A s.inn.length c) ∧ (∃ A c, vc = .slice A s.codes.length c) ∧ (∃ A c, va = .slice A k c) ∧ (∃ A c, vt = .slice A k c) ∧ (∃ A c, vh = .slice A k c) :=
  ⟨OwnK.sl (h.fam.1 0 _ rfl), OwnK.sl (h.fam.1 1 _ rfl), OwnK.sl (h.fam.1 2 _ rfl), OwnK.sl (h.fam.1 3 _ rfl), OwnK.sl (h.fam.1 4 _ rfl)⟩
/-- A list in memory. -/
abbrev SV (v : Value) (xs : List Value) (w : World) : Prop := ∃ A c, v = .slice A xs.length c ∧ Rd w A xs
/-- An answer. -/
def BakV (n : Nat) (s : BS) (v : Value) (w : World) : Prop := ∃ v0 v1 v2 v3 v4, v = .agg #[v0, v1, v2, v3, v4] ∧ SV v0 (ints s.codes) w ∧ SV v1 (ints (atL s.p n)) w ∧ SV v2 (ints (tkL s.p n)) w ∧ SV v3 (bools (chL s.p n)) w ∧ SV v4 (ints s.inn) w
theorem OwnK.sv {w : World} {B : Nat} {e : TypeId} {n : Nat} {v : Value} {xs : List Value} (h : OwnK w B e 1 n v xs) : SV v xs w := by
  obtain ⟨A, c, rfl, ho⟩ := id h
  have := h.length
  exact ⟨A, c, by rw [this, Nat.mul_one], h.rd.2⟩
/-- The slices of the answer while those of H are to come. -/
def FF (pb : Nat) (v vc va vt vh : Value) (s : BS) (k : Nat) (H : List Nat) (g : Nat → Value) : Nat → Option FE
  | 0 => some ⟨3, 1, s.inn.length, v, ints s.inn⟩
  | 1 => some ⟨27, 1, s.codes.length, vc, ints s.codes⟩
  | 2 => if 5 ∈ H then some ⟨3, 1, k, va, ints (atL s.p k)⟩ else some ⟨3, 1, k + 1, g 81, ints (atL s.p k) ++ [.int .i64 (s.p k).at']⟩
  | 3 => if 11 ∈ H then some ⟨3, 1, k, vt, ints (tkL s.p k)⟩ else some ⟨3, 1, k + 1, g 87, ints (tkL s.p k) ++ [.int .i64 (s.p k).tk]⟩
  | 4 => if 17 ∈ H then some ⟨4, 1, k, vh, bools (chL s.p k)⟩ else some ⟨4, 1, k + 1, g 93, bools (chL s.p k) ++ [.bool (s.p k).ch]⟩
  | 5 => if 4 ∈ H then none else some ⟨3, 1, 1, g 80, [.int .i64 (s.p k).at']⟩
  | 6 => if 10 ∈ H then none else some ⟨3, 1, 1, g 86, [.int .i64 (s.p k).tk]⟩
  | 7 => if 16 ∈ H then none else some ⟨4, 1, 1, g 92, [.bool (s.p k).ch]⟩
  | 8 => some ⟨81, 5, 1, .slice (some ⟨pb, 0, none⟩) 1 1, prC (s.p k)⟩
  | _ => none
structure JJ (s0 pb : Nat) (v vc va vt vh : Value) (s : BS) (k : Nat) (wA : World) (H : List Nat) (g : Nat → Value) (w : World) : Prop where
  fam : Fam w (s0 + 2) (FF pb v vc va vt vh s k H g)
  ag : Agree (fun j => s0 + 2 ≤ j ∧ j ≠ pb) wA w
  a8 : 8 ∉ H → g 84 = .pointer (some ⟨pb, 3, none⟩)
  a9 : 9 ∉ H → g 85 = .int .i64 (s.p k).tk
  a14 : 14 ∉ H → g 90 = .pointer (some ⟨pb, 4, none⟩)
  a15 : 15 ∉ H → g 91 = .bool (s.p k).ch
  a18 : 18 ∉ H → g 94 = .pointer (some ⟨s0 + 1, 1, none⟩)
section
variable {s0 pb : Nat} {v vc va vt vh : Value} {s : BS} {k : Nat} {wA : World} {H : List Nat} {g : Nat → Value} {w w' : World}
theorem JJ.c4 (h : JJ s0 pb v vc va vt vh s k wA H g w) (hw : s0 + 2 ≤ w.heap.size) : JJ s0 pb v vc va vt vh s k wA (H.filter (· != 4)) (fun t => if 80 = t then .slice (some ⟨w.heap.size, 0, none⟩) 1 1 else g t) (w.alloc (.cells #[.int .i64 (s.p k).at'] 3)) := by
  have hp := h.fam.put 5 (below_box (Below.refl _ _) _) (OwnK.lit w 3 1 1 [.int .i64 (s.p k).at'] hw (by decide) rfl) (fun g hg => by cases hg; exact Nat.le_refl _)
  refine ⟨?_, h.ag.trans (Agree.of_below (below_box (Below.refl _ _) _)), by simpa [List.mem_filter] using h.a8, by simpa [List.mem_filter] using h.a9, by simpa [List.mem_filter] using h.a14, by simpa [List.mem_filter] using h.a15, by simpa [List.mem_filter] using h.a18⟩
  rw [show FF pb v vc va vt vh s k (H.filter (· != 4)) (fun t => if 80 = t then .slice (some ⟨w.heap.size, 0, none⟩) 1 1 else g t) = upd (FF pb v vc va vt vh s k H g) 5 (some ⟨3, 1, 1, .slice (some ⟨w.heap.size, 0, none⟩) 1 1, [.int .i64 (s.p k).at']⟩) from by
    funext q; rcases q with _|_|_|_|_|_|_|_|_|q <;> simp [FF, upd, List.mem_filter]]
  exact hp
theorem JJ.c10 (h : JJ s0 pb v vc va vt vh s k wA H g w) (hw : s0 + 2 ≤ w.heap.size) : JJ s0 pb v vc va vt vh s k wA (H.filter (· != 10)) (fun t => if 86 = t then .slice (some ⟨w.heap.size, 0, none⟩) 1 1 else g t) (w.alloc (.cells #[.int .i64 (s.p k).tk] 3)) := by
  have hp := h.fam.put 6 (below_box (Below.refl _ _) _) (OwnK.lit w 3 1 1 [.int .i64 (s.p k).tk] hw (by decide) rfl) (fun g hg => by cases hg; exact Nat.le_refl _)
  refine ⟨?_, h.ag.trans (Agree.of_below (below_box (Below.refl _ _) _)), by simpa [List.mem_filter] using h.a8, by simpa [List.mem_filter] using h.a9, by simpa [List.mem_filter] using h.a14, by simpa [List.mem_filter] using h.a15, by simpa [List.mem_filter] using h.a18⟩
  rw [show FF pb v vc va vt vh s k (H.filter (· != 10)) (fun t => if 86 = t then .slice (some ⟨w.heap.size, 0, none⟩) 1 1 else g t) = upd (FF pb v vc va vt vh s k H g) 6 (some ⟨3, 1, 1, .slice (some ⟨w.heap.size, 0, none⟩) 1 1, [.int .i64 (s.p k).tk]⟩) from by
    funext q; rcases q with _|_|_|_|_|_|_|_|_|q <;> simp [FF, upd, List.mem_filter]]
  exact hp
theorem JJ.c16 (h : JJ s0 pb v vc va vt vh s k wA H g w) (hw : s0 + 2 ≤ w.heap.size) : JJ s0 pb v vc va vt vh s k wA (H.filter (· != 16)) (fun t => if 92 = t then .slice (some ⟨w.heap.size, 0, none⟩) 1 1 else g t) (w.alloc (.cells #[.bool (s.p k).ch] 4)) := by
  have hp := h.fam.put 7 (below_box (Below.refl _ _) _) (OwnK.lit w 4 1 1 [.bool (s.p k).ch] hw (by decide) rfl) (fun g hg => by cases hg; exact Nat.le_refl _)
  refine ⟨?_, h.ag.trans (Agree.of_below (below_box (Below.refl _ _) _)), by simpa [List.mem_filter] using h.a8, by simpa [List.mem_filter] using h.a9, by simpa [List.mem_filter] using h.a14, by simpa [List.mem_filter] using h.a15, by simpa [List.mem_filter] using h.a18⟩
  rw [show FF pb v vc va vt vh s k (H.filter (· != 16)) (fun t => if 92 = t then .slice (some ⟨w.heap.size, 0, none⟩) 1 1 else g t) = upd (FF pb v vc va vt vh s k H g) 7 (some ⟨4, 1, 1, .slice (some ⟨w.heap.size, 0, none⟩) 1 1, [.bool (s.p k).ch]⟩) from by
    funext q; rcases q with _|_|_|_|_|_|_|_|_|q <;> simp [FF, upd, List.mem_filter]]
  exact hp
theorem JJ.c5 (h : JJ s0 pb v vc va vt vh s k wA H g w) (hi : 5 ∈ H) {u : Value} (hg : w.grownBy w' va.ownBlock) (ho : OwnK w' (s0 + 2) 3 1 (k + 1) u (ints (atL s.p k) ++ [.int .i64 (s.p k).at'])) (hst : Stays w va u) : JJ s0 pb v vc va vt vh s k wA (H.filter (· != 5)) (fun t => if 81 = t then u else g t) w' := by
  have hk : FF pb v vc va vt vh s k H g 2 = some ⟨3, 1, k, va, ints (atL s.p k)⟩ := by simp [FF, hi]
  have hp := h.fam.grow hk hg ho hst
  have hX : ∀ j, va.ownBlock = some j → s0 + 2 ≤ j ∧ j ≠ pb := fun j hj => ⟨((h.fam.1 2 _ hk).lt hj).1, fun e => h.fam.2 2 8 _ _ (by decide) hk rfl j hj (by rw [e]; rfl)⟩
  refine ⟨?_, h.ag.trans (Agree.grown hg hX), by simpa [List.mem_filter] using h.a8, by simpa [List.mem_filter] using h.a9, by simpa [List.mem_filter] using h.a14, by simpa [List.mem_filter] using h.a15, by simpa [List.mem_filter] using h.a18⟩
  rw [show FF pb v vc va vt vh s k (H.filter (· != 5)) (fun t => if 81 = t then u else g t) = upd (FF pb v vc va vt vh s k H g) 2 (some ⟨3, 1, k + 1, u, ints (atL s.p k) ++ [.int .i64 (s.p k).at']⟩) from by
    funext q; rcases q with _|_|_|_|_|_|_|_|_|q <;> simp [FF, upd, List.mem_filter]]
  exact hp
theorem JJ.c11 (h : JJ s0 pb v vc va vt vh s k wA H g w) (hi : 11 ∈ H) {u : Value} (hg : w.grownBy w' vt.ownBlock) (ho : OwnK w' (s0 + 2) 3 1 (k + 1) u (ints (tkL s.p k) ++ [.int .i64 (s.p k).tk])) (hst : Stays w vt u) : JJ s0 pb v vc va vt vh s k wA (H.filter (· != 11)) (fun t => if 87 = t then u else g t) w' := by
  have hk : FF pb v vc va vt vh s k H g 3 = some ⟨3, 1, k, vt, ints (tkL s.p k)⟩ := by simp [FF, hi]
  have hp := h.fam.grow hk hg ho hst
  have hX : ∀ j, vt.ownBlock = some j → s0 + 2 ≤ j ∧ j ≠ pb := fun j hj => ⟨((h.fam.1 3 _ hk).lt hj).1, fun e => h.fam.2 3 8 _ _ (by decide) hk rfl j hj (by rw [e]; rfl)⟩
  refine ⟨?_, h.ag.trans (Agree.grown hg hX), by simpa [List.mem_filter] using h.a8, by simpa [List.mem_filter] using h.a9, by simpa [List.mem_filter] using h.a14, by simpa [List.mem_filter] using h.a15, by simpa [List.mem_filter] using h.a18⟩
  rw [show FF pb v vc va vt vh s k (H.filter (· != 11)) (fun t => if 87 = t then u else g t) = upd (FF pb v vc va vt vh s k H g) 3 (some ⟨3, 1, k + 1, u, ints (tkL s.p k) ++ [.int .i64 (s.p k).tk]⟩) from by
    funext q; rcases q with _|_|_|_|_|_|_|_|_|q <;> simp [FF, upd, List.mem_filter]]
  exact hp
theorem JJ.c17 (h : JJ s0 pb v vc va vt vh s k wA H g w) (hi : 17 ∈ H) {u : Value} (hg : w.grownBy w' vh.ownBlock) (ho : OwnK w' (s0 + 2) 4 1 (k + 1) u (bools (chL s.p k) ++ [.bool (s.p k).ch])) (hst : Stays w vh u) : JJ s0 pb v vc va vt vh s k wA (H.filter (· != 17)) (fun t => if 93 = t then u else g t) w' := by
  have hk : FF pb v vc va vt vh s k H g 4 = some ⟨4, 1, k, vh, bools (chL s.p k)⟩ := by simp [FF, hi]
  have hp := h.fam.grow hk hg ho hst
  have hX : ∀ j, vh.ownBlock = some j → s0 + 2 ≤ j ∧ j ≠ pb := fun j hj => ⟨((h.fam.1 4 _ hk).lt hj).1, fun e => h.fam.2 4 8 _ _ (by decide) hk rfl j hj (by rw [e]; rfl)⟩
  refine ⟨?_, h.ag.trans (Agree.grown hg hX), by simpa [List.mem_filter] using h.a8, by simpa [List.mem_filter] using h.a9, by simpa [List.mem_filter] using h.a14, by simpa [List.mem_filter] using h.a15, by simpa [List.mem_filter] using h.a18⟩
  rw [show FF pb v vc va vt vh s k (H.filter (· != 17)) (fun t => if 93 = t then u else g t) = upd (FF pb v vc va vt vh s k H g) 4 (some ⟨4, 1, k + 1, u, bools (chL s.p k) ++ [.bool (s.p k).ch]⟩) from by
    funext q; rcases q with _|_|_|_|_|_|_|_|_|q <;> simp [FF, upd, List.mem_filter]]
  exact hp
theorem JJ.c8 (h : JJ s0 pb v vc va vt vh s k wA H g w) : JJ s0 pb v vc va vt vh s k wA (H.filter (· != 8)) (fun t => if 84 = t then .pointer (some ⟨pb, 3, none⟩) else g t) w := by
  refine ⟨?_, h.ag, fun _ => if_pos rfl, by simpa [List.mem_filter] using h.a9, by simpa [List.mem_filter] using h.a14, by simpa [List.mem_filter] using h.a15, by simpa [List.mem_filter] using h.a18⟩
  rw [show FF pb v vc va vt vh s k (H.filter (· != 8)) (fun t => if 84 = t then .pointer (some ⟨pb, 3, none⟩) else g t) = FF pb v vc va vt vh s k H g from by
    funext q; rcases q with _|_|_|_|_|_|_|_|_|q <;> simp [FF, upd, List.mem_filter]]
  exact h.fam
theorem JJ.c9 (h : JJ s0 pb v vc va vt vh s k wA H g w) : JJ s0 pb v vc va vt vh s k wA (H.filter (· != 9)) (fun t => if 85 = t then .int .i64 (s.p k).tk else g t) w := by
  refine ⟨?_, h.ag, by simpa [List.mem_filter] using h.a8, fun _ => if_pos rfl, by simpa [List.mem_filter] using h.a14, by simpa [List.mem_filter] using h.a15, by simpa [List.mem_filter] using h.a18⟩
  rw [show FF pb v vc va vt vh s k (H.filter (· != 9)) (fun t => if 85 = t then .int .i64 (s.p k).tk else g t) = FF pb v vc va vt vh s k H g from by
    funext q; rcases q with _|_|_|_|_|_|_|_|_|q <;> simp [FF, upd, List.mem_filter]]
  exact h.fam
theorem JJ.c14 (h : JJ s0 pb v vc va vt vh s k wA H g w) : JJ s0 pb v vc va vt vh s k wA (H.filter (· != 14)) (fun t => if 90 = t then .pointer (some ⟨pb, 4, none⟩) else g t) w := by
  refine ⟨?_, h.ag, by simpa [List.mem_filter] using h.a8, by simpa [List.mem_filter] using h.a9, fun _ => if_pos rfl, by simpa [List.mem_filter] using h.a15, by simpa [List.mem_filter] using h.a18⟩
  rw [show FF pb v vc va vt vh s k (H.filter (· != 14)) (fun t => if 90 = t then .pointer (some ⟨pb, 4, none⟩) else g t) = FF pb v vc va vt vh s k H g from by
    funext q; rcases q with _|_|_|_|_|_|_|_|_|q <;> simp [FF, upd, List.mem_filter]]
  exact h.fam
theorem JJ.c15 (h : JJ s0 pb v vc va vt vh s k wA H g w) : JJ s0 pb v vc va vt vh s k wA (H.filter (· != 15)) (fun t => if 91 = t then .bool (s.p k).ch else g t) w := by
  refine ⟨?_, h.ag, by simpa [List.mem_filter] using h.a8, by simpa [List.mem_filter] using h.a9, by simpa [List.mem_filter] using h.a14, fun _ => if_pos rfl, by simpa [List.mem_filter] using h.a18⟩
  rw [show FF pb v vc va vt vh s k (H.filter (· != 15)) (fun t => if 91 = t then .bool (s.p k).ch else g t) = FF pb v vc va vt vh s k H g from by
    funext q; rcases q with _|_|_|_|_|_|_|_|_|q <;> simp [FF, upd, List.mem_filter]]
  exact h.fam
theorem JJ.c18 (h : JJ s0 pb v vc va vt vh s k wA H g w) : JJ s0 pb v vc va vt vh s k wA (H.filter (· != 18)) (fun t => if 94 = t then .pointer (some ⟨s0 + 1, 1, none⟩) else g t) w := by
  refine ⟨?_, h.ag, by simpa [List.mem_filter] using h.a8, by simpa [List.mem_filter] using h.a9, by simpa [List.mem_filter] using h.a14, by simpa [List.mem_filter] using h.a15, fun _ => if_pos rfl⟩
  rw [show FF pb v vc va vt vh s k (H.filter (· != 18)) (fun t => if 94 = t then .pointer (some ⟨s0 + 1, 1, none⟩) else g t) = FF pb v vc va vt vh s k H g from by
    funext q; rcases q with _|_|_|_|_|_|_|_|_|q <;> simp [FF, upd, List.mem_filter]]
  exact h.fam
theorem JJ.cell (h : JJ s0 pb v vc va vt vh s k wA H g w) {j : Nat} (hj : j < 5) : w.cell? ⟨pb, j, none⟩ = (prC (s.p k))[j]? := ((h.fam.1 8 _ rfl).at (by omega)).1
theorem JJ.size (h : JJ s0 pb v vc va vt vh s k wA H g w) : s0 + 2 ≤ pb ∧ pb < w.heap.size := (h.fam.1 8 _ rfl).lt rfl
end

/-- The three appends and what they need, in any order. -/
theorem three_any {ops : Array Oper} {L : Nat} {ok : Nat → Prop} {Q : Array Value → World → Prop} {r : HPlan} {f0 : Array Value} {s0 pb : Nat} {v vc va vt vh : Value} {s : BS} {k : Nat} {wA w : World}
    (i4 : OpIs ops 4 (.buildSlice 22 1 #[(0, .tmp 79)]) 80 []) (i5 : OpIs ops 5 (.call { callee := .builtin .append, args := #[.tmp 77, .tmp 80], argTypes := #[22, 22] }) 81 [4])
    (i8 : OpIs ops 8 (.fieldAddr 81 (.tmp 12) 3) 84 []) (i9 : OpIs ops 9 (.load 3 (.tmp 84)) 85 [8]) (i10 : OpIs ops 10 (.buildSlice 22 1 #[(0, .tmp 85)]) 86 [9])
    (i11 : OpIs ops 11 (.call { callee := .builtin .append, args := #[.tmp 83, .tmp 86], argTypes := #[22, 22] }) 87 [10]) (i14 : OpIs ops 14 (.fieldAddr 81 (.tmp 12) 4) 90 []) (i15 : OpIs ops 15 (.load 4 (.tmp 90)) 91 [14])
    (i16 : OpIs ops 16 (.buildSlice 24 1 #[(0, .tmp 91)]) 92 [15]) (i17 : OpIs ops 17 (.call { callee := .builtin .append, args := #[.tmp 89, .tmp 92], argTypes := #[24, 24] }) 93 [16]) (i18 : OpIs ops 18 (.fieldAddr 26 (.tmp 8) 1) 94 [])
    (hs : 94 < f0.size) (f77 : f0.getD 77 undef = va) (f79 : f0.getD 79 undef = .int .i64 (s.p k).at') (f83 : f0.getD 83 undef = vt) (f89 : f0.getD 89 undef = vh) (f12 : f0.getD 12 undef = .pointer (some ⟨pb, 0, none⟩)) (f8 : f0.getD 8 undef = .pointer (some ⟨s0 + 1, 0, none⟩)) (hk : k ≤ 1000)
    (h0 : JJ s0 pb v vc va vt vh s k wA [4, 5, 8, 9, 10, 11, 14, 15, 16, 17, 18] (fun t => f0.getD t undef) w)
    (hend : ∀ g w' A5 c5 A6 c6 A7 c7, g 81 = .slice A5 (k + 1) c5 → g 87 = .slice A6 (k + 1) c6 → g 93 = .slice A7 (k + 1) c7 → g 94 = .pointer (some ⟨s0 + 1, 1, none⟩) → JJ s0 pb v vc va vt vh s k wA [] g w' → Now (heldF Try.prog ops L (Agree (fun j => s0 + 2 ≤ j ∧ j ≠ pb) wA) ok Q r (setD g [80, 81, 84, 85, 86, 87, 90, 91, 92, 93, 94] f0) w')) :
    heldF Try.prog ops L (Agree (fun j => s0 + 2 ≤ j ∧ j ≠ pb) wA) ok Q (.any [4, 5, 8, 9, 10, 11, 14, 15, 16, 17, 18] r) f0 w := by
  refine heldF_anyD [80, 81, 84, 85, 86, 87, 90, 91, 92, 93, 94] (JJ s0 pb v vc va vt vh s k wA) ?_ h0 ?_ fun g w' hJ => by
    obtain ⟨A5, c5, e81⟩ := OwnK.sl (hJ.fam.1 2 _ rfl)
    obtain ⟨A6, c6, e87⟩ := OwnK.sl (hJ.fam.1 3 _ rfl)
    obtain ⟨A7, c7, e93⟩ := OwnK.sl (hJ.fam.1 4 _ rfl)
    exact hend g w' A5 c5 A6 c6 A7 c7 e81 e87 e93 (hJ.a18 (by simp)) hJ
  · have e : ∀ i op d deps, OpIs ops i op d deps → d ∈ [80, 81, 84, 85, 86, 87, 90, 91, 92, 93, 94] → dstB ops [80, 81, 84, 85, 86, 87, 90, 91, 92, 93, 94] f0.size i = true := by
      rintro i op d deps ⟨o, h1, _, h2, _⟩ hd
      unfold dstB
      simp only [h1, h2, Bool.and_eq_true, decide_eq_true_eq]
      have hd2 : d ≤ 94 := by
        simp only [List.mem_cons, List.not_mem_nil, or_false] at hd
        rcases hd with rfl | rfl | rfl | rfl | rfl | rfl | rfl | rfl | rfl | rfl | rfl <;> decide
      exact ⟨by simpa using hd, Nat.lt_of_le_of_lt hd2 hs⟩
    simp only [List.all_cons, List.all_nil, e _ _ _ _ i4 (by simp), e _ _ _ _ i5 (by simp), e _ _ _ _ i8 (by simp), e _ _ _ _ i9 (by simp), e _ _ _ _ i10 (by simp), e _ _ _ _ i11 (by simp), e _ _ _ _ i14 (by simp), e _ _ _ _ i15 (by simp), e _ _ _ _ i16 (by simp), e _ _ _ _ i17 (by simp), e _ _ _ _ i18 (by simp), Bool.and_true, Bool.true_and, Bool.and_eq_true, decide_eq_true_eq]
    omega
  · rintro H i o f w1 hH hf hJ hi ho hdep
    have hiG := hH i hi
    have hsz := hJ.size
    simp only [List.mem_cons, List.not_mem_nil, or_false] at hiG
    have g77 := (hf 77 (by decide)).trans f77
    have g79 := (hf 79 (by decide)).trans f79
    have g83 := (hf 83 (by decide)).trans f83
    have g89 := (hf 89 (by decide)).trans f89
    have g12 := (hf 12 (by decide)).trans f12
    have g8 := (hf 8 (by decide)).trans f8
    rcases hiG with rfl | rfl | rfl | rfl | rfl | rfl | rfl | rfl | rfl | rfl | rfl
    · obtain ⟨ho', hd, hx⟩ := i4.use ho hdep
      have hn := hJ.c4 (by omega)
      exact eff_build1 ho' Fa.elo22 Fa.zco3 Fa.kOf22 g79 rfl ⟨hn.ag, by simpa only [hd, Option.some.injEq] using hn⟩
    · obtain ⟨ho', hd, hx⟩ := i5.use ho hdep
      have h4 := hx 4 (by simp)
      obtain ⟨A, c, hu, hr⟩ := OwnK.sv (hJ.fam.1 5 _ (by simp only [FF, if_neg h4]; rfl))
      refine eff_app ho' rfl (OPW_appKS (K' := fun v' w' => Agree _ _ w' ∧ JJ _ _ _ _ _ _ _ _ _ _ _ _ w') (s := .tmp 77) (x := .tmp 80) ho' Fa.apI22 g77 hu hr (by simp) (by simp [Value.oneCell']) (hJ.fam.1 2 _ (by simp only [FF, if_pos hi]; rfl)) (by omega) (by simp; omega) (by decide) fun v' w' ho2 hg2 hst2 => ?_)
      have hn := hJ.c5 hi hg2 ho2 hst2
      exact ⟨hn.ag, by simpa only [hd, Option.some.injEq] using hn⟩
    · obtain ⟨ho', hd, hx⟩ := i8.use ho hdep
      have hn := hJ.c8
      exact eff_fieldAddr ho' Fa.fldo81_3 (by decide) g12 (by simpa only [Nat.zero_add] using ⟨hn.ag, by simpa only [hd, Option.some.injEq] using hn⟩)
    · obtain ⟨ho', hd, hx⟩ := i9.use ho hdep
      have hn := hJ.c9
      have hc := hJ.cell (j := 3) (by omega)
      exact eff_load ho' Fa.isAggB3 Fa.knownB3 (hJ.a8 (hx 8 (by simp))) hc (by rw [Fa.kOf3]; first | exact congrArg _ (rdI_of hc) | exact congrArg _ (rdB_of hc)) ⟨hn.ag, by simpa only [hd, Option.some.injEq] using hn⟩
    · obtain ⟨ho', hd, hx⟩ := i10.use ho hdep
      have hn := hJ.c10 (by omega)
      exact eff_build1 ho' Fa.elo22 Fa.zco3 Fa.kOf22 (hJ.a9 (hx 9 (by simp))) rfl ⟨hn.ag, by simpa only [hd, Option.some.injEq] using hn⟩
    · obtain ⟨ho', hd, hx⟩ := i11.use ho hdep
      have h10 := hx 10 (by simp)
      obtain ⟨A, c, hu, hr⟩ := OwnK.sv (hJ.fam.1 6 _ (by simp only [FF, if_neg h10]; rfl))
      refine eff_app ho' rfl (OPW_appKS (K' := fun v' w' => Agree _ _ w' ∧ JJ _ _ _ _ _ _ _ _ _ _ _ _ w') (s := .tmp 83) (x := .tmp 86) ho' Fa.apI22 g83 hu hr (by simp) (by simp [Value.oneCell']) (hJ.fam.1 3 _ (by simp only [FF, if_pos hi]; rfl)) (by omega) (by simp; omega) (by decide) fun v' w' ho2 hg2 hst2 => ?_)
      have hn := hJ.c11 hi hg2 ho2 hst2
      exact ⟨hn.ag, by simpa only [hd, Option.some.injEq] using hn⟩
    · obtain ⟨ho', hd, hx⟩ := i14.use ho hdep
      have hn := hJ.c14
      exact eff_fieldAddr ho' Fa.fldo81_4 (by decide) g12 (by simpa only [Nat.zero_add] using ⟨hn.ag, by simpa only [hd, Option.some.injEq] using hn⟩)
    · obtain ⟨ho', hd, hx⟩ := i15.use ho hdep
      have hn := hJ.c15
      have hc := hJ.cell (j := 4) (by omega)
      exact eff_load ho' Fa.isAggB4 Fa.knownB4 (hJ.a14 (hx 14 (by simp))) hc (by rw [Fa.kOf4]; first | exact congrArg _ (rdI_of hc) | exact congrArg _ (rdB_of hc)) ⟨hn.ag, by simpa only [hd, Option.some.injEq] using hn⟩
    · obtain ⟨ho', hd, hx⟩ := i16.use ho hdep
      have hn := hJ.c16 (by omega)
      exact eff_build1 ho' Fa.elo24 Fa.zco4 Fa.kOf24 (hJ.a15 (hx 15 (by simp))) rfl ⟨hn.ag, by simpa only [hd, Option.some.injEq] using hn⟩
    · obtain ⟨ho', hd, hx⟩ := i17.use ho hdep
      have h16 := hx 16 (by simp)
      obtain ⟨A, c, hu, hr⟩ := OwnK.sv (hJ.fam.1 7 _ (by simp only [FF, if_neg h16]; rfl))
      refine eff_app ho' rfl (OPW_appKS (K' := fun v' w' => Agree _ _ w' ∧ JJ _ _ _ _ _ _ _ _ _ _ _ _ w') (s := .tmp 89) (x := .tmp 92) ho' Fa.apI24 g89 hu hr (by simp) (by simp [Value.oneCell']) (hJ.fam.1 4 _ (by simp only [FF, if_pos hi]; rfl)) (by omega) (by simp; omega) (by decide) fun v' w' ho2 hg2 hst2 => ?_)
      have hn := hJ.c17 hi hg2 ho2 hst2
      exact ⟨hn.ag, by simpa only [hd, Option.some.injEq] using hn⟩
    · obtain ⟨ho', hd, hx⟩ := i18.use ho hdep
      have hn := hJ.c18
      exact eff_fieldAddr ho' Fa.fldo26_1 (by decide) g8 (by simpa only [Nat.zero_add] using ⟨hn.ag, by simpa only [hd, Option.some.injEq] using hn⟩)

theorem JJ.start {z s0 n : Nat} {v vc va vt vh : Value} {s : BS} {k : Nat} {wx wy : World} (h : P2 z s0 n v vc va vt vh s k wx) (hB : Below wx.heap.size wx wy) (hp : OwnK wy (s0 + 2) 81 5 1 (.slice (some ⟨wx.heap.size, 0, none⟩) 1 1) (prC (s.p k))) (g : Nat → Value) :
    JJ s0 wx.heap.size v vc va vt vh s k wy [4, 5, 8, 9, 10, 11, 14, 15, 16, 17, 18] g (wy.drewN 1) := by
  have hf := (h.fam.put 8 hB hp fun g hg => by cases hg; exact Nat.le_refl _).drewN 1
  refine ⟨?_, Agree.of_below (below_drewN (Below.refl _ _) 1), fun h => absurd (by simp) h, fun h => absurd (by simp) h, fun h => absurd (by simp) h, fun h => absurd (by simp) h, fun h => absurd (by simp) h⟩
  rw [show FF wx.heap.size v vc va vt vh s k [4, 5, 8, 9, 10, 11, 14, 15, 16, 17, 18] g = upd (F5 v vc va vt vh s k) 8 (some ⟨81, 5, 1, .slice (some ⟨wx.heap.size, 0, none⟩) 1 1, prC (s.p k)⟩) from by
    funext q; rcases q with _|_|_|_|_|_|_|_|_|q <;> simp [FF, F5, upd]]
  exact hf
theorem JJ.next {z s0 n pb : Nat} {v vc va vt vh : Value} {s : BS} {k : Nat} {wx wy w1 : World} {g : Nat → Value} (h : P2 z s0 n v vc va vt vh s k wx) (hB : Below wx.heap.size wx wy) (hpb : pb = wx.heap.size) (hJ : JJ s0 pb v vc va vt vh s k wy [] g w1) :
    Box w1 (s0 + 1) [vc, va, vt, vh, nilS] ∧ P2 z s0 n v vc (g 81) (g 87) (g 93) s (k + 1) (((w1.setCell ⟨s0 + 1, 1, none⟩ (g 81)).setCell ⟨s0 + 1, 2, none⟩ (g 87)).setCell ⟨s0 + 1, 3, none⟩ (g 93)) := by
  have lo := h.lo
  have ag : Agree (fun j => s0 + 2 ≤ j ∧ j ≠ pb) wx w1 := (Agree.of_below hB).trans hJ.ag
  have h1 := h.out.agree ag (by omega)
  have hag : Agree (fun j => j = s0 + 1) w1 (((w1.setCell ⟨s0 + 1, 1, none⟩ (g 81)).setCell ⟨s0 + 1, 2, none⟩ (g 87)).setCell ⟨s0 + 1, 3, none⟩ (g 93)) :=
    ((Agree.setCell (X := fun j => j = s0 + 1) w1 (a := ⟨s0 + 1, 1, none⟩) _ rfl).trans (Agree.setCell (X := fun j => j = s0 + 1) _ (a := ⟨s0 + 1, 2, none⟩) _ rfl)).trans (Agree.setCell (X := fun j => j = s0 + 1) _ (a := ⟨s0 + 1, 3, none⟩) _ rfl)
  refine ⟨h1, lo, (h.rc.agree ag (by omega)).agree hag (by omega), (h.sb.agree ag (by omega)).agree hag (by omega), ((h1.set 1 _).set 2 _).set 3 _, (h.res.agree ag (by omega)).agree hag (by omega), ?_⟩
  refine (hJ.fam.agree hag fun j _ hj => by omega).drop fun q x hq => ?_
  rcases q with _ | _ | _ | _ | _ | q
  · exact hq
  · exact hq
  · rw [← hq]; simp [FF, F5, atL, List.range_succ]
  · rw [← hq]; simp [FF, F5, tkL, List.range_succ]
  · rw [← hq]; simp [FF, F5, chL, List.range_succ]
  · cases hq
end Go.Proofs.Ytnggjekppdlaoaa
