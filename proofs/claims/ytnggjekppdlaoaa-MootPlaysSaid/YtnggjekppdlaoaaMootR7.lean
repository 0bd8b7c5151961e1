/- An assembly as the document has it: what it makes first, in any order. -/
import Derived.Test.YtnggjekppdlaoaaMootR6
import Derived.Test.YtnggjekppdlaoaaMoot6
import Derived.Test.YtnggjekppdlaoaaFam
namespace Go.VC
open Go Go.RowKit
theorem eff_mk {P : Program} {o : Oper} {f : Array Value} {w : World} {K' : Value → World → Prop} {t : TypeId} {l c : Operand} (ho : o.op = .makeSlice t l c) (h : OPW P o f w K') : eff P o f w K' := by
  unfold eff; rw [ho]; exact h
theorem eff_build2 {P : Program} {o : Oper} {f : Array Value} {w : World} {K' : Value → World → Prop} {t e : TypeId} {x : Operand} {z1 z2 u1 u2 : Value} (ho : o.op = .buildSlice t 1 #[(0, x)]) (he : elo P t = some (2, e)) (hz : zco P e = some [z1, z2]) (hk : kOf P t = .s) (hx : evo f x = .agg #[u1, u2]) (hu : (Value.agg #[u1, u2]).cells = #[u1, u2])
    (h : K' (.slice (some ⟨w.heap.size, 0, none⟩) 1 1) (w.alloc (.cells #[u1, u2] e))) : eff P o f w K' := by
  unfold eff
  rw [ho]
  simp only [he, hz, hk, Option.getD_some]
  simp only [hx, List.map_cons, List.map_nil, List.range_one, Nat.zero_mul, fillL, List.getElem?_cons_zero, hu]
  simp [putL]
  exact h
end Go.VC
namespace Go.Proofs.Ytnggjekppdlaoaa
open Go Go.RowKit Go.VC
set_option linter.unusedSimpArgs false
set_option linter.unusedVariables false

abbrev zs (n : Nat) : List Value := List.replicate n (.int .i64 0)
abbrev sl1 (b n : Nat) : Value := .slice (some ⟨b, 0, none⟩) n n
abbrev oB (g : Nat → Value) : Ob := oOwn 116 2 1 (g 18) [.int .i64 (-1), .int .i64 0]
abbrev oV (n : Nat) (g : Nat → Value) (d : Nat) : Ob := oOwn 3 1 n (g d) (zs n)
def JO (n : Nat) (H : List Nat) (g : Nat → Value) : List Ob :=
  (if 4 ∈ H then [] else [oB g]) ++ ((if 6 ∈ H then [] else [oV n g 20]) ++ (if 8 ∈ H then [] else [oV n g 22]))
structure JR (n : Nat) (wA : World) (H : List Nat) (g : Nat → Value) (w : World) : Prop where
  hp : Hp wA.heap.size (JO n H g) w
  ag : Below wA.heap.size wA w
  a4 : 4 ∉ H → ∃ b, g 18 = sl1 b 1
  a6 : 6 ∉ H → ∃ b, g 20 = sl1 b n
  a8 : 8 ∉ H → ∃ b, g 22 = sl1 b n
section
variable {n : Nat} {wA w w' : World} {H : List Nat} {g : Nat → Value}
theorem JR.c4 (h : JR n wA H g w) (hi : 4 ∈ H) : JR n wA (H.filter (· != 4)) (fun t => if 18 = t then sl1 w.heap.size 1 else g t) (w.alloc (.cells #[.int .i64 (-1), .int .i64 0] 116)) := by
  have hB : Below w.heap.size w (w.alloc (.cells #[.int .i64 (-1), .int .i64 0] 116)) := (Below.refl _ _).alloc (Nat.le_refl _) _
  refine ⟨?_, h.ag.trans (hB.mono h.ag.size), fun _ => ⟨_, if_pos rfl⟩, by simpa [List.mem_filter] using h.a6, by simpa [List.mem_filter] using h.a8⟩
  have := (h.hp.st_add (o := oOwn 116 2 1 (sl1 w.heap.size 1) [.int .i64 (-1), .int .i64 0]) hB (OwnK.lit w _ 2 1 [.int .i64 (-1), .int .i64 0] (Nat.zero_le _) (by decide) rfl) (fun g hg => by cases hg; exact Nat.le_refl _)).hp
  simpa [JO, oB, oV, List.mem_filter, hi] using this
theorem JR.c6 (h : JR n wA H g w) (hi : 6 ∈ H) (hg : w.grownBy w' none) (ho : OwnK w' 0 3 1 n (sl1 w.heap.size n) (zs n)) : JR n wA (H.filter (· != 6)) (fun t => if 20 = t then sl1 w.heap.size n else g t) w' := by
  have hB : Below w.heap.size w w' := (Below.refl _ w).grown hg (Nat.le_refl _) fun k hk => by cases hk
  refine ⟨?_, h.ag.trans (hB.mono h.ag.size), by simpa [List.mem_filter] using h.a4, fun _ => ⟨_, if_pos rfl⟩, by simpa [List.mem_filter] using h.a8⟩
  have := (h.hp.st_add (o := oOwn 3 1 n (sl1 w.heap.size n) (zs n)) hB ho (fun g hg => by cases hg; exact Nat.le_refl _)).hp
  by_cases h4 : 4 ∈ H
  · simpa [JO, oB, oV, List.mem_filter, hi, h4] using this
  · have := this.perm (L' := JO n (H.filter (· != 6)) (fun t => if 20 = t then sl1 w.heap.size n else g t)) (by simp [JO, oB, oV, List.mem_filter, hi, h4]; exact List.Perm.swap _ _ _)
    exact this
theorem JR.c8 (h : JR n wA H g w) (hi : 8 ∈ H) (hg : w.grownBy w' none) (ho : OwnK w' 0 3 1 n (sl1 w.heap.size n) (zs n)) : JR n wA (H.filter (· != 8)) (fun t => if 22 = t then sl1 w.heap.size n else g t) w' := by
  have hB : Below w.heap.size w w' := (Below.refl _ w).grown hg (Nat.le_refl _) fun k hk => by cases hk
  refine ⟨?_, h.ag.trans (hB.mono h.ag.size), by simpa [List.mem_filter] using h.a4, by simpa [List.mem_filter] using h.a6, fun _ => ⟨_, if_pos rfl⟩⟩
  have := (h.hp.st_add (o := oOwn 3 1 n (sl1 w.heap.size n) (zs n)) hB ho (fun g hg => by cases hg; exact Nat.le_refl _)).hp
  have := this.perm (L' := JO n (H.filter (· != 8)) (fun t => if 22 = t then sl1 w.heap.size n else g t)) (by
    by_cases h4 : 4 ∈ H <;> by_cases h6 : 6 ∈ H <;> simp [JO, oB, oV, List.mem_filter, hi, h4, h6]
    · exact List.Perm.swap _ _ _
    · exact List.Perm.swap _ _ _
    · exact (List.Perm.swap _ _ _).trans (.cons _ (List.Perm.swap _ _ _)))
  exact this
end
theorem JR.start (n : Nat) (wA w : World) (g : Nat → Value) (h : Below wA.heap.size wA w) : JR n wA [4, 6, 8] g w :=
  ⟨Hp.nil h.size, h, fun h => absurd (by simp) h, fun h => absurd (by simp) h, fun h => absurd (by simp) h⟩

theorem makesR_any {ops : Array Oper} {L : Nat} {ok : Nat → Prop} {Q : Array Value → World → Prop} {r : HPlan} {f0 : Array Value} {n : Nat} {wA w : World}
    (i4 : OpIs ops 4 (.buildSlice 45 1 #[(0, .tmp 17)]) 18 []) (i6 : OpIs ops 6 (.makeSlice 22 (.tmp 19) (.tmp 19)) 20 []) (i8 : OpIs ops 8 (.makeSlice 22 (.tmp 21) (.tmp 21)) 22 [])
    (hs : 22 < f0.size) (f17 : f0.getD 17 undef = .agg #[.int .i64 (-1), .int .i64 0]) (f19 : f0.getD 19 undef = .int .i64 n) (f21 : f0.getD 21 undef = .int .i64 n) (hn : n ≤ 1000)
    (h0 : JR n wA [4, 6, 8] (fun t => f0.getD t undef) w)
    (hend : ∀ g w' gb gv gk, g 18 = sl1 gb 1 → g 20 = sl1 gv n → g 22 = sl1 gk n → JR n wA [] g w' → Now (heldF Try.prog ops L (Agree (fun _ => False) wA) ok Q r (setD g [18, 20, 22] f0) w')) :
    heldF Try.prog ops L (Agree (fun _ => False) wA) ok Q (.any [4, 6, 8] r) f0 w := by
  refine heldF_anyD [18, 20, 22] (JR n wA) ?_ h0 ?_ fun g w' hJ => by
    obtain ⟨gb, h4⟩ := hJ.a4 (by simp)
    obtain ⟨gv, h6⟩ := hJ.a6 (by simp)
    obtain ⟨gk, h8⟩ := hJ.a8 (by simp)
    exact hend g w' gb gv gk h4 h6 h8 hJ
  · have e : ∀ i op d deps, OpIs ops i op d deps → d ∈ [18, 20, 22] → dstB ops [18, 20, 22] f0.size i = true := by
      rintro i op d deps ⟨o, h1, _, h2, _⟩ hd
      unfold dstB
      simp only [h1, h2, Bool.and_eq_true, decide_eq_true_eq]
      have hd2 : d ≤ 22 := by
        simp only [List.mem_cons, List.not_mem_nil, or_false] at hd
        rcases hd with rfl | rfl | rfl <;> decide
      exact ⟨by simpa using hd, Nat.lt_of_le_of_lt hd2 hs⟩
    simp only [List.all_cons, List.all_nil, e _ _ _ _ i4 (by simp), e _ _ _ _ i6 (by simp), e _ _ _ _ i8 (by simp), Bool.and_true, Bool.true_and, Bool.and_eq_true, decide_eq_true_eq]
    omega
  · rintro H i o f w1 hH hf hJ hi ho hdep
    have hiG := hH i hi
    simp only [List.mem_cons, List.not_mem_nil, or_false] at hiG
    have g17 := (hf 17 (by decide)).trans f17
    have g19 := (hf 19 (by decide)).trans f19
    have g21 := (hf 21 (by decide)).trans f21
    rcases hiG with rfl | rfl | rfl
    · obtain ⟨ho', hd, hx⟩ := i4.use ho hdep
      have hn := hJ.c4 hi
      exact eff_build2 ho' Fa.elo45 Fa.zco116 Fa.kOf45 g17 rfl ⟨Agree.of_below hn.ag, by simpa only [hd, Option.some.injEq] using hn⟩
    · obtain ⟨ho', hd, hx⟩ := i6.use ho hdep
      refine eff_mk ho' (OPW_make (K' := fun v' w' => Agree _ _ w' ∧ JR _ _ _ _ w') (n := n) (base := 0) (l := .tmp 19) (c := .tmp 19) ho' Fa.apI22 g19 g19 rfl rfl (by omega) (by omega) (Nat.zero_le _) fun w' ho2 hg2 => ?_)
      have hn := hJ.c6 hi hg2 ⟨_, _, rfl, ho2⟩
      exact ⟨Agree.of_below hn.ag, by simpa only [hd, Option.some.injEq] using hn⟩
    · obtain ⟨ho', hd, hx⟩ := i8.use ho hdep
      refine eff_mk ho' (OPW_make (K' := fun v' w' => Agree _ _ w' ∧ JR _ _ _ _ w') (n := n) (base := 0) (l := .tmp 21) (c := .tmp 21) ho' Fa.apI22 g21 g21 rfl rfl (by omega) (by omega) (Nat.zero_le _) fun w' ho2 hg2 => ?_)
      have hn := hJ.c8 hi hg2 ⟨_, _, rfl, ho2⟩
      exact ⟨Agree.of_below hn.ag, by simpa only [hd, Option.some.injEq] using hn⟩
end Go.Proofs.Ytnggjekppdlaoaa
