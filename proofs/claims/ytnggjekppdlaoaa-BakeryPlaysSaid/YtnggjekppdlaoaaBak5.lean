/- The document's tickets: what it makes first, in any order. -/
import Derived.Test.YtnggjekppdlaoaaBak4
namespace Go.VC
open Go Go.RowKit
theorem eff_make {P : Program} {o : Oper} {f : Array Value} {w : World} {K' : Value → World → Prop} {t : TypeId} {l c : Operand} (ho : o.op = .makeSlice t l c) (h : OPW P o f w K') : eff P o f w K' := by
  unfold eff; rw [ho]; exact h
theorem eff_alloc {P : Program} {o : Oper} {f : Array Value} {w : World} {K' : Value → World → Prop} {e : TypeId} {z : List Value} (ho : o.op = .alloc e) (hz : zco P e = some z) (h : K' (.pointer (some ⟨w.heap.size, 0, none⟩)) (w.alloc (.cells z.toArray e))) : eff P o f w K' := by
  unfold eff; rw [ho]; simp only [hz]; exact h
theorem eff_build {P : Program} {o : Oper} {f : Array Value} {w : World} {K' : Value → World → Prop} {t : TypeId} {ps : Array (Nat × Operand)} (ho : o.op = .build t ps) (h : (pv P w f o).c ∧ K' (pv P w f o).v w) : eff P o f w K' := by
  unfold eff; rw [ho]
  have e : opP P w f o = pv P w f o := by unfold opP; rw [ho]
  simp only [e]; exact h
end Go.VC
namespace Go.Proofs.Ytnggjekppdlaoaa
open Go Go.RowKit Go.VC
set_option linter.unusedSimpArgs false
set_option linter.unusedVariables false

abbrev nil5 : List Value := [nilS, nilS, nilS, nilS, nilS]
def ptB : Value → Option Nat
  | .pointer (some ⟨b, _, _⟩) => some b
  | _ => none
def FG (n : Nat) (H : List Nat) (g : Nat → Value) : Nat → Option FE
  | 2 => if 1 ∈ H then none else some ⟨3, 1, n, g 12, List.replicate n (.int .i64 0)⟩
  | 3 => if 3 ∈ H then none else some ⟨3, 1, n, g 14, List.replicate n (.int .i64 0)⟩
  | 4 => if 5 ∈ H then none else some ⟨4, 1, n, g 16, List.replicate n (.bool false)⟩
  | 7 => if 7 ∈ H then none else (ptB (g 5)).map fun b => ⟨26, 5, 1, sl b 1, nil5⟩
  | _ => none
structure JM (n : Nat) (wA : World) (H : List Nat) (g : Nat → Value) (w : World) : Prop where
  fam : Fam w wA.heap.size (FG n H g)
  ag : Below wA.heap.size wA w
  a1 : 1 ∉ H → ∃ b, g 12 = sl b n
  a3 : 3 ∉ H → ∃ b, g 14 = sl b n
  a5 : 5 ∉ H → ∃ b, g 16 = sl b n
  a6 : 6 ∉ H → 1 ∉ H ∧ 3 ∉ H ∧ 5 ∉ H ∧ g 17 = .agg #[nilS, g 12, g 14, g 16, nilS]
  a7 : 7 ∉ H → ∃ b, g 5 = .pointer (some ⟨b, 0, none⟩)
section
variable {n : Nat} {wA w w' : World} {H : List Nat} {g : Nat → Value}
theorem JM.c1 (h : JM n wA H g w) (hi : 1 ∈ H) (hg : w.grownBy w' none) (ho : OwnK w' wA.heap.size 3 1 n (sl w.heap.size n) (List.replicate n (.int .i64 0))) : JM n wA (H.filter (· != 1)) (fun t => if 12 = t then sl w.heap.size n else g t) w' := by
  have hB : Below w.heap.size w w' := (Below.refl _ w).grown hg (Nat.le_refl _) fun k hk => by cases hk
  have hp := h.fam.put 2 hB ho (fun g hg => by cases hg; exact Nat.le_refl _)
  refine ⟨?_, h.ag.trans (hB.mono h.ag.size), fun _ => ⟨_, if_pos rfl⟩, by simpa [List.mem_filter] using h.a3, by simpa [List.mem_filter] using h.a5, fun h6 => absurd hi (h.a6 (by simpa [List.mem_filter] using h6)).1, by simpa [List.mem_filter] using h.a7⟩
  rw [show FG n (H.filter (· != 1)) (fun t => if 12 = t then sl w.heap.size n else g t) = upd (FG n H g) 2 (some ⟨3, 1, n, sl w.heap.size n, List.replicate n (.int .i64 0)⟩) from by
    funext q; rcases q with _|_|_|_|_|_|_|_|q <;> simp [FG, upd, List.mem_filter]]
  exact hp
theorem JM.c3 (h : JM n wA H g w) (hi : 3 ∈ H) (hg : w.grownBy w' none) (ho : OwnK w' wA.heap.size 3 1 n (sl w.heap.size n) (List.replicate n (.int .i64 0))) : JM n wA (H.filter (· != 3)) (fun t => if 14 = t then sl w.heap.size n else g t) w' := by
  have hB : Below w.heap.size w w' := (Below.refl _ w).grown hg (Nat.le_refl _) fun k hk => by cases hk
  have hp := h.fam.put 3 hB ho (fun g hg => by cases hg; exact Nat.le_refl _)
  refine ⟨?_, h.ag.trans (hB.mono h.ag.size), by simpa [List.mem_filter] using h.a1, fun _ => ⟨_, if_pos rfl⟩, by simpa [List.mem_filter] using h.a5, fun h6 => absurd hi (h.a6 (by simpa [List.mem_filter] using h6)).2.1, by simpa [List.mem_filter] using h.a7⟩
  rw [show FG n (H.filter (· != 3)) (fun t => if 14 = t then sl w.heap.size n else g t) = upd (FG n H g) 3 (some ⟨3, 1, n, sl w.heap.size n, List.replicate n (.int .i64 0)⟩) from by
    funext q; rcases q with _|_|_|_|_|_|_|_|q <;> simp [FG, upd, List.mem_filter]]
  exact hp
theorem JM.c5 (h : JM n wA H g w) (hi : 5 ∈ H) (hg : w.grownBy w' none) (ho : OwnK w' wA.heap.size 4 1 n (sl w.heap.size n) (List.replicate n (.bool false))) : JM n wA (H.filter (· != 5)) (fun t => if 16 = t then sl w.heap.size n else g t) w' := by
  have hB : Below w.heap.size w w' := (Below.refl _ w).grown hg (Nat.le_refl _) fun k hk => by cases hk
  have hp := h.fam.put 4 hB ho (fun g hg => by cases hg; exact Nat.le_refl _)
  refine ⟨?_, h.ag.trans (hB.mono h.ag.size), by simpa [List.mem_filter] using h.a1, by simpa [List.mem_filter] using h.a3, fun _ => ⟨_, if_pos rfl⟩, fun h6 => absurd hi (h.a6 (by simpa [List.mem_filter] using h6)).2.2.1, by simpa [List.mem_filter] using h.a7⟩
  rw [show FG n (H.filter (· != 5)) (fun t => if 16 = t then sl w.heap.size n else g t) = upd (FG n H g) 4 (some ⟨4, 1, n, sl w.heap.size n, List.replicate n (.bool false)⟩) from by
    funext q; rcases q with _|_|_|_|_|_|_|_|q <;> simp [FG, upd, List.mem_filter]]
  exact hp
theorem JM.c6 (h : JM n wA H g w) (h1 : 1 ∉ H) (h3 : 3 ∉ H) (h5 : 5 ∉ H) : JM n wA (H.filter (· != 6)) (fun t => if 17 = t then .agg #[nilS, g 12, g 14, g 16, nilS] else g t) w := by
  refine ⟨?_, h.ag, by simpa [List.mem_filter] using h.a1, by simpa [List.mem_filter] using h.a3, by simpa [List.mem_filter] using h.a5, fun _ => ⟨by simpa [List.mem_filter] using h1, by simpa [List.mem_filter] using h3, by simpa [List.mem_filter] using h5, by simp⟩, by simpa [List.mem_filter] using h.a7⟩
  rw [show FG n (H.filter (· != 6)) (fun t => if 17 = t then .agg #[nilS, g 12, g 14, g 16, nilS] else g t) = FG n H g from by
    funext q; rcases q with _|_|_|_|_|_|_|_|q <;> simp [FG, upd, List.mem_filter]]
  exact h.fam
theorem JM.c7 (h : JM n wA H g w) : JM n wA (H.filter (· != 7)) (fun t => if 5 = t then .pointer (some ⟨w.heap.size, 0, none⟩) else g t) (w.alloc (.cells #[nilS, nilS, nilS, nilS, nilS] 26)) := by
  have hp := h.fam.put 7 (below_box (Below.refl _ _) _) (OwnK.lit w 26 5 1 nil5 h.ag.size (by decide) rfl) (fun g hg => by cases hg; exact Nat.le_refl _)
  refine ⟨?_, below_box h.ag _, by simpa [List.mem_filter] using h.a1, by simpa [List.mem_filter] using h.a3, by simpa [List.mem_filter] using h.a5, by simpa [List.mem_filter] using h.a6, fun _ => ⟨_, if_pos rfl⟩⟩
  rw [show FG n (H.filter (· != 7)) (fun t => if 5 = t then .pointer (some ⟨w.heap.size, 0, none⟩) else g t) = upd (FG n H g) 7 (some ⟨26, 5, 1, sl w.heap.size 1, nil5⟩) from by
    funext q; rcases q with _|_|_|_|_|_|_|_|q <;> simp [FG, upd, List.mem_filter, ptB]]
  exact hp
end
theorem JM.start (n : Nat) (wA : World) (g : Nat → Value) : JM n wA [1, 3, 5, 6, 7] g (wA.drewN 1) :=
  ⟨(Fam.nil _ _).drop fun q x hq => (by rcases q with _|_|_|_|_|_|_|_|q <;> simp [FG] at hq), below_drewN (Below.refl _ _) 1, fun h => absurd (by simp) h, fun h => absurd (by simp) h, fun h => absurd (by simp) h, fun h => absurd (by simp) h, fun h => absurd (by simp) h⟩

theorem makes_any {ops : Array Oper} {L : Nat} {ok : Nat → Prop} {Q : Array Value → World → Prop} {r : HPlan} {f0 : Array Value} {n : Nat} {wA w : World}
    (i1 : OpIs ops 1 (.makeSlice 22 (.tmp 11) (.tmp 11)) 12 []) (i3 : OpIs ops 3 (.makeSlice 22 (.tmp 13) (.tmp 13)) 14 []) (i5 : OpIs ops 5 (.makeSlice 24 (.tmp 15) (.tmp 15)) 16 [])
    (i6 : OpIs ops 6 (.build 26 #[(1, .tmp 12), (2, .tmp 14), (3, .tmp 16)]) 17 [1, 3, 5]) (i7 : OpIs ops 7 (.alloc 26) 5 [])
    (hs : 17 < f0.size) (f11 : f0.getD 11 undef = .int .i64 n) (f13 : f0.getD 13 undef = .int .i64 n) (f15 : f0.getD 15 undef = .int .i64 n) (hn : n ≤ 1000)
    (h0 : JM n wA [1, 3, 5, 6, 7] (fun t => f0.getD t undef) w)
    (hend : ∀ g w' ga gt gh ob, g 12 = sl ga n → g 14 = sl gt n → g 16 = sl gh n → g 5 = .pointer (some ⟨ob, 0, none⟩) → g 17 = .agg #[nilS, sl ga n, sl gt n, sl gh n, nilS] → JM n wA [] g w' → Now (heldF Try.prog ops L (Agree (fun _ => False) wA) ok Q r (setD g [5, 12, 14, 16, 17] f0) w')) :
    heldF Try.prog ops L (Agree (fun _ => False) wA) ok Q (.any [1, 3, 5, 6, 7] r) f0 w := by
  refine heldF_anyD [5, 12, 14, 16, 17] (JM n wA) ?_ h0 ?_ fun g w' hJ => by
    obtain ⟨ga, h1⟩ := hJ.a1 (by simp)
    obtain ⟨gt, h3⟩ := hJ.a3 (by simp)
    obtain ⟨gh, h5⟩ := hJ.a5 (by simp)
    obtain ⟨ob, h7⟩ := hJ.a7 (by simp)
    obtain ⟨_, _, _, h6⟩ := hJ.a6 (by simp)
    rw [h1, h3, h5] at h6
    exact hend g w' ga gt gh ob h1 h3 h5 h7 h6 hJ
  · have e : ∀ i op d deps, OpIs ops i op d deps → d ∈ [5, 12, 14, 16, 17] → dstB ops [5, 12, 14, 16, 17] f0.size i = true := by
      rintro i op d deps ⟨o, h1, _, h2, _⟩ hd
      unfold dstB
      simp only [h1, h2, Bool.and_eq_true, decide_eq_true_eq]
      have hd2 : d ≤ 17 := by
        simp only [List.mem_cons, List.not_mem_nil, or_false] at hd
        rcases hd with rfl | rfl | rfl | rfl | rfl <;> decide
      exact ⟨by simpa using hd, Nat.lt_of_le_of_lt hd2 hs⟩
    simp only [List.all_cons, List.all_nil, e _ _ _ _ i1 (by simp), e _ _ _ _ i3 (by simp), e _ _ _ _ i5 (by simp), e _ _ _ _ i6 (by simp), e _ _ _ _ i7 (by simp), Bool.and_true, Bool.true_and, Bool.and_eq_true, decide_eq_true_eq]
    omega
  · rintro H i o f w1 hH hf hJ hi ho hdep
    have hiG := hH i hi
    simp only [List.mem_cons, List.not_mem_nil, or_false] at hiG
    have g11 := (hf 11 (by decide)).trans f11
    have g13 := (hf 13 (by decide)).trans f13
    have g15 := (hf 15 (by decide)).trans f15
    have hsz := hJ.ag.size
    rcases hiG with rfl | rfl | rfl | rfl | rfl
    · obtain ⟨ho', hd, hx⟩ := i1.use ho hdep
      refine eff_make ho' (OPW_make (K' := fun v' w' => Agree _ _ w' ∧ JM _ _ _ _ w') (n := n) (base := wA.heap.size) (l := .tmp 11) (c := .tmp 11) ho' Fa.apI22 g11 g11 rfl rfl (by omega) (by omega) hsz fun w' ho2 hg2 => ?_)
      have hn := hJ.c1 hi hg2 ⟨_, _, rfl, ho2⟩
      exact ⟨Agree.of_below hn.ag, by simpa only [hd, Option.some.injEq] using hn⟩
    · obtain ⟨ho', hd, hx⟩ := i3.use ho hdep
      refine eff_make ho' (OPW_make (K' := fun v' w' => Agree _ _ w' ∧ JM _ _ _ _ w') (n := n) (base := wA.heap.size) (l := .tmp 13) (c := .tmp 13) ho' Fa.apI22 g13 g13 rfl rfl (by omega) (by omega) hsz fun w' ho2 hg2 => ?_)
      have hn := hJ.c3 hi hg2 ⟨_, _, rfl, ho2⟩
      exact ⟨Agree.of_below hn.ag, by simpa only [hd, Option.some.injEq] using hn⟩
    · obtain ⟨ho', hd, hx⟩ := i5.use ho hdep
      refine eff_make ho' (OPW_make (K' := fun v' w' => Agree _ _ w' ∧ JM _ _ _ _ w') (n := n) (base := wA.heap.size) (l := .tmp 15) (c := .tmp 15) ho' Fa.apI24 g15 g15 rfl rfl (by omega) (by omega) hsz fun w' ho2 hg2 => ?_)
      have hn := hJ.c5 hi hg2 ⟨_, _, rfl, ho2⟩
      exact ⟨Agree.of_below hn.ag, by simpa only [hd, Option.some.injEq] using hn⟩
    · obtain ⟨ho', hd, hx⟩ := i6.use ho hdep
      have hn := hJ.c6 (hx 1 (by simp)) (hx 3 (by simp)) (hx 5 (by simp))
      obtain ⟨ga, h1⟩ := hJ.a1 (hx 1 (by simp))
      obtain ⟨gt, h3⟩ := hJ.a3 (hx 3 (by simp))
      obtain ⟨gh, h5⟩ := hJ.a5 (hx 5 (by simp))
      have e : pv Try.prog w1 f o = ⟨True, .agg #[nilS, f.getD 12 undef, f.getD 14 undef, f.getD 16 undef, nilS]⟩ := by
        have h1 : f.getD 12 undef = sl ga n := h1
        have h3 : f.getD 14 undef = sl gt n := h3
        have h5 : f.getD 16 undef = sl gh n := h5
        simp only [pv, ho', Fa.placeo26, Fa.zco26]
        show (match fillL [(0, 1), (1, 1), (2, 1), (3, 1), (4, 1)] #[nilS, nilS, nilS, nilS, nilS] [(1, f.getD 12 undef), (2, f.getD 14 undef), (3, f.getD 16 undef)] with
          | some cs => (⟨True, .agg cs⟩ : PV)
          | none => ⟨False, undef⟩) = _
        rw [h1, h3, h5]
        rfl
      refine eff_build ho' ?_
      rw [e]
      exact ⟨trivial, Agree.of_below hn.ag, by simpa only [hd, Option.some.injEq] using hn⟩
    · obtain ⟨ho', hd, hx⟩ := i7.use ho hdep
      have hn := hJ.c7
      exact eff_alloc ho' Fa.zco26 ⟨Agree.of_below hn.ag, by simpa only [hd, Option.some.injEq] using hn⟩
end Go.Proofs.Ytnggjekppdlaoaa
