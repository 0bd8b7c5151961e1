/- The iterator over a block and those above it. -/
import Derived.Test.YtnggjekppdlaoaaChainPlain
import Derived.Test.YtnggjekppdlaoaaRange
namespace Go.Proofs.Ytnggjekppdlaoaa
open Go Go.RowKit Go.VC
set_option linter.unusedSimpArgs false
set_option linter.unusedVariables false

theorem yield_mono {P : Program} {l : Nat} {vals : Array Value} {w : World} {R R' : Ending → World → Prop} (h : YieldAt Fence.wide 0 P l vals w R) (hr : ∀ e w', R e w' → R' e w') : YieldAt Fence.wide 0 P l vals w R' := by
  obtain ⟨fn, tmps, a, b, h1, h2⟩ := h
  exact ⟨fn, tmps, a, b, h1, h2.mono hr⟩

theorem upFn_any (A : Option Addr) (n c : Nat) (b : Int) (w : World) :
    Calls Try.prog 95 #[.slice A n c, .int .i64 b] w fun e w' => e = .returned (.func (.func 106) #[] #[.pointer (some ⟨w.heap.size + 1, 0, none⟩), .pointer (some ⟨w.heap.size, 0, none⟩)]) ∧
      w' = (w.alloc (.cells #[.slice A n c] 45)).alloc (.cells #[.int .i64 b] 3) := by
  refine calls_vc (rs := [.tmp 4]) Fa.mix Try.func95 rfl Try.ntmps95 rfl (by kernel_rfl) (Nat.le_of_ble_eq_true rfl) ?_
  simp -dsimp only [Fa.F95, VC.Now, VC.vc, VC.lib, VC.regQ, VC.loopK, VC.reg, VC.opP, VC.pv, VC.thenF, VC.blkF, VC.retF, VC.resV, VC.oneV, VC.evo, VC.bin, VC.binI, VC.cmpI, VC.arithI, VC.ldv, VC.slv, VC.pickP, VC.holds, VC.chainOf, VC.look, VC.junk, VC.put, VC.eff, VC.callee, VC.pureB, VC.rdK, VC.rdKs, VC.okKs, VC.eqKs, VC.fillL, VC.putL, VC.stW, VC.stOK, VC.mixF, VC.setAll, Nat.reduceAdd, Nat.reduceSub, Nat.reduceMul, if_true, if_false, ↓reduceIte, forall_const, implies_true, reduceCtorEq, ne_eq, Nat.reduceBNe, Nat.reduceBEq, IntKind.signed, Nat.reduceEqDiff, Nat.reduceLeDiff, Nat.reduceLT, eq_self, Int.reduceEq, Int.reduceLT, Int.reduceLE, Int.reduceAdd, Int.reduceSub, VC.regC_nil, VC.regC_cons, VC.regCK_eq, VC.callQ, VC.tailQ, VC.goCall, VC.chStep]
  done

/-- From a block up to the first one. -/
def ups (p : Nat → Int) (b : Nat) : List Int := (path p b).reverse
theorem ups_zero (p : Nat → Int) : ups p 0 = [0] := rfl
theorem ups_succ {n : Nat} {p : Nat → Int} (h : Up n p) {b : Nat} (h0 : 0 < b) (hb : b < n) : ups p b = (b : Int) :: ups p (p b).toNat := by
  unfold ups; rw [path_succ h h0 hb]; simp
/-- What stands at the next round; -1 behind the last. -/
def upAt (p : Nat → Int) (b i : Nat) : Int := if i < (ups p b).length then (ups p b).getD i 0 else -1
theorem upAt_step {n : Nat} {p : Nat → Int} (h : Up n p) (hp0 : p 0 = -1) : ∀ (b i : Nat), b < n → i < (ups p b).length → 0 ≤ (ups p b).getD i 0 ∧ (ups p b).getD i 0 < n ∧ p ((ups p b).getD i 0).toNat = upAt p b (i + 1) := by
  intro b
  induction b using Nat.strongRecOn with
  | _ b ih =>
    intro i hb hi
    by_cases h0 : b = 0
    · subst h0
      rw [ups_zero] at hi ⊢
      simp at hi
      subst hi
      unfold upAt
      rw [ups_zero]
      simp [hp0]; omega
    · have hlt := h b (by omega) hb
      have he := ups_succ h (by omega) hb
      unfold upAt
      rw [he] at hi ⊢
      cases i with
      | zero =>
        have hne : 0 < (ups p (p b).toNat).length := by
          unfold ups; rw [List.length_reverse]
          exact List.length_pos_iff.2 (path_ne h (by omega))
        have h00 : (ups p (p b).toNat).getD 0 0 = p b := by
          by_cases hz : (p b).toNat = 0
          · rw [hz, ups_zero]; simp; omega
          · rw [ups_succ h (by omega) (by omega)]; simp; omega
        simp only [List.getD_cons_zero, List.length_cons, List.getD_cons_succ, Int.toNat_natCast]
        rw [if_pos (by omega), h00]
        exact ⟨by omega, by omega, rfl⟩
      | succ i =>
        have := ih (p b).toNat (by omega) i (by omega) (by simpa using hi)
        unfold upAt at this
        simp only [List.getD_cons_succ, List.length_cons]
        simpa using this

set_option maxRecDepth 8000 in
set_option maxHeartbeats 1000000 in
theorem up_iter (A : Option Addr) (n c : Nat) (p r : Nat → Int) (b bB lB : Nat) (w : World) (Kp : Nat → Prop) (hn : n ≤ 40) (hu : Up n p) (hp0 : p 0 = -1) (hb : b < n) (hr : RdBlk w A n p r) (hne : bB ≠ lB)
    (hcb : w.cell? ⟨bB, 0, none⟩ = some (.int .i64 b)) (hfz : w.frozen? ⟨bB, 0, none⟩ = false) (hcl : w.cell? ⟨lB, 0, none⟩ = some (.slice A n c)) (hK1 : Kp lB) (hK2 : ∀ a, A = some a → Kp a.block ∧ a.block ≠ bB) :
    IterC Try.prog 106 [.pointer (some ⟨bB, 0, none⟩), .pointer (some ⟨lB, 0, none⟩)] (ups p b).length (fun i vals W => vals = #[.int .i64 ((ups p b).getD i 0)]) (fun _ k => k = bB) Kp w := by
  intro l J Jx W hB hJ hJx h0 hround
  have hbs : bB < w.heap.size := World.block_lt_of_cell? w _ hcb
  have hls : lB < w.heap.size := World.block_lt_of_cell? w _ hcl
  obtain ⟨ab, ao, rfl, hab, hcells⟩ := hr (by omega)
  obtain ⟨hK2, hK3⟩ := hK2 _ rfl
  refine calls_vc (rs := []) Fa.mix Try.func106 rfl Try.ntmps106 rfl (by kernel_rfl) (Nat.le_of_ble_eq_true rfl) ?_
  simp -dsimp only [Fa.F106, VC.Now, VC.vc, VC.lib, VC.regQ, VC.loopK, VC.reg, VC.opP, VC.pv, VC.thenF, VC.blkF, VC.retF, VC.resV, VC.oneV, VC.evo, VC.bin, VC.binI, VC.cmpI, VC.arithI, VC.ldv, VC.slv, VC.pickP, VC.holds, VC.chainOf, VC.look, VC.junk, VC.put, VC.eff, VC.callee, VC.pureB, VC.rdK, VC.rdKs, VC.okKs, VC.eqKs, VC.fillL, VC.putL, VC.stW, VC.stOK, VC.mixF, VC.setAll, Nat.reduceAdd, Nat.reduceSub, Nat.reduceMul, if_true, if_false, ↓reduceIte, forall_const, implies_true, reduceCtorEq, ne_eq, Nat.reduceBNe, Nat.reduceBEq, IntKind.signed, Nat.reduceEqDiff, Nat.reduceLeDiff, Nat.reduceLT, eq_self, Int.reduceEq, Int.reduceLT, Int.reduceLE, Int.reduceAdd, Int.reduceSub, VC.regC_nil, VC.regC_cons, VC.regCK_eq, VC.callQ, VC.tailQ, VC.goCall, VC.chStep]
  refine loop_slots Fa.mix [] [4, 5, 6, 7, 8, 9, 10, 11, 12, 13, 14] (fun m vs wr => ∃ i : Nat, i + m = (ups p b).length ∧ vs = [] ∧ J i wr ∧ w.heap.size ≤ wr.heap.size ∧ wr.cell? ⟨bB, 0, none⟩ = some (.int .i64 (upAt p b i)) ∧ wr.frozen? ⟨bB, 0, none⟩ = false ∧
      wr.heap[lB]? = W.heap[lB]? ∧ wr.heap[ab]? = W.heap[ab]?) (ups p b).length (by kernel_rfl) rfl
    ⟨0, by omega, rfl, h0, hB.size, ?_, ?_, rfl, rfl⟩ ?_
  · rw [hB.cell (p := ⟨bB, 0, none⟩) hbs, hcb]
    have : 0 < (ups p b).length := by unfold ups; rw [List.length_reverse]; exact List.length_pos_iff.2 (path_ne hu hb)
    unfold upAt
    rw [if_pos this]
    by_cases hz : b = 0
    · subst hz; rfl
    · rw [ups_succ hu (by omega) hb]; rfl
  · rw [hB.frozen (p := ⟨bB, 0, none⟩) hbs]; exact hfz
  · rintro m vs u wr ⟨i, him, rfl, hJi, hsz, hcb', hfz', hl', ha'⟩
    have hl0 : wr.cell? ⟨lB, 0, none⟩ = some (.slice (some ⟨ab, ao, none⟩) n c) := ((World.cell?_of_block (w := W) (a := ⟨lB, 0, none⟩) hl').trans (hB.cell (p := ⟨lB, 0, none⟩) hls)).trans hcl
    have hac : ∀ j, j < n → wr.cell? ⟨ab, ao + j * 2, none⟩ = some (.int .i64 (p j)) := fun j hj =>
      ((World.cell?_of_block (w := W) (a := ⟨ab, ao + j * 2, none⟩) ha').trans (hB.cell (p := ⟨ab, ao + j * 2, none⟩) hab)).trans (hcells j hj).1
    by_cases hi : i < (ups p b).length
    · obtain ⟨g1, g2, g3⟩ := upAt_step hu hp0 b i hb hi
      have hv : upAt p b i = (ups p b).getD i 0 := by unfold upAt; rw [if_pos hi]
      rw [hv] at hcb'
      simp -dsimp only [Fa.F106, rdI_of hcb', hcb', VC.Now, VC.vc, VC.lib, VC.regQ, VC.loopK, VC.reg, VC.opP, VC.pv, VC.thenF, VC.blkF, VC.retF, VC.resV, VC.oneV, VC.evo, VC.bin, VC.binI, VC.cmpI, VC.arithI, VC.ldv, VC.slv, VC.pickP, VC.holds, VC.chainOf, VC.look, VC.junk, VC.put, VC.eff, VC.callee, VC.pureB, VC.rdK, VC.rdKs, VC.okKs, VC.eqKs, VC.fillL, VC.putL, VC.stW, VC.stOK, VC.mixF, VC.setAll, Nat.reduceAdd, Nat.reduceSub, Nat.reduceMul, if_true, if_false, ↓reduceIte, forall_const, implies_true, reduceCtorEq, ne_eq, Nat.reduceBNe, Nat.reduceBEq, IntKind.signed, Nat.reduceEqDiff, Nat.reduceLeDiff, Nat.reduceLT, eq_self, Int.reduceEq, Int.reduceLT, Int.reduceLE, Int.reduceAdd, Int.reduceSub, VC.regC_nil, VC.regC_cons, VC.regCK_eq, VC.callQ, VC.tailQ, VC.goCall, VC.chStep]
      refine ⟨fun _ => ?_, fun h => absurd h (by omega)⟩
      refine OPW_yield rfl rfl rfl rfl (yield_mono (hround i _ wr hi hJi (by simp [evo]) (by rintro k rfl; omega)) ?_)
      rintro e w2 (⟨rfl, hJ2, hA⟩ | ⟨rfl, hJx2⟩)
      · refine ⟨_, rfl, ?_⟩
        have hb2 : w2.heap[bB]? = wr.heap[bB]? := hA.block bB (by omega) (by simp)
        have hl2 : w2.heap[lB]? = wr.heap[lB]? := hA.block lB (by omega) (by simp [hK1])
        have ha2 : w2.heap[ab]? = wr.heap[ab]? := hA.block ab (by omega) (by simp only [Classical.not_not]; exact .inl hK2)
        have e1 : w2.cell? ⟨bB, 0, none⟩ = some (.int .i64 ((ups p b).getD i 0)) := (World.cell?_of_block (w := wr) (a := ⟨bB, 0, none⟩) hb2).trans hcb'
        have e2 : w2.cell? ⟨lB, 0, none⟩ = some (.slice (some ⟨ab, ao, none⟩) n c) := (World.cell?_of_block (w := wr) (a := ⟨lB, 0, none⟩) hl2).trans hl0
        have e3 : w2.cell? ⟨ab, ao + ((ups p b).getD i 0).toNat * 2, none⟩ = some (.int .i64 (p ((ups p b).getD i 0).toNat)) := (World.cell?_of_block (w := wr) (a := ⟨ab, _, none⟩) ha2).trans (hac _ (by omega))
        have e4 : w2.frozen? ⟨bB, 0, none⟩ = false := (World.frozen?_of_block (w := wr) (a := ⟨bB, 0, none⟩) hb2).trans hfz'
        simp -dsimp only [Fa.F106, rdI_of e1, e1, rdSA_of e2, rdSN_of e2, rdSC_of e2, e2, rdI_of e3, e3, e4, VC.Now, VC.vc, VC.lib, VC.regQ, VC.loopK, VC.reg, VC.opP, VC.pv, VC.thenF, VC.blkF, VC.retF, VC.resV, VC.oneV, VC.evo, VC.bin, VC.binI, VC.cmpI, VC.arithI, VC.ldv, VC.slv, VC.pickP, VC.holds, VC.chainOf, VC.look, VC.junk, VC.put, VC.eff, VC.callee, VC.pureB, VC.rdK, VC.rdKs, VC.okKs, VC.eqKs, VC.fillL, VC.putL, VC.stW, VC.stOK, VC.mixF, VC.setAll, Nat.reduceAdd, Nat.reduceSub, Nat.reduceMul, if_true, if_false, ↓reduceIte, forall_const, implies_true, reduceCtorEq, ne_eq, Nat.reduceBNe, Nat.reduceBEq, IntKind.signed, Nat.reduceEqDiff, Nat.reduceLeDiff, Nat.reduceLT, eq_self, Int.reduceEq, Int.reduceLT, Int.reduceLE, Int.reduceAdd, Int.reduceSub, VC.regC_nil, VC.regC_cons, VC.regCK_eq, VC.callQ, VC.tailQ, VC.goCall, VC.chStep]
        have hs2 := hA.size
        refine ⟨by omega, SAME.intro (by kernel_rfl), m - 1, by omega, i + 1, by omega, hJ _ _ _ hJ2 (Agree.setCell w2 _ rfl), by simp; omega, ?_, ?_, ?_, ?_⟩
        · rw [World.cell?_setCell_same w2 ⟨bB, 0, none⟩ _ e1, g3]
        · rw [World.frozen?_setCell]; exact e4
        · rw [Below.heap_setCell _ _ _ _ (fun e => hne e.symm), hl2]; exact hl'
        · rw [Below.heap_setCell _ _ _ _ hK3, ha2]; exact ha'
      · refine ⟨_, rfl, ?_⟩
        simp -dsimp only [Fa.F106, VC.Now, VC.vc, VC.lib, VC.regQ, VC.loopK, VC.reg, VC.opP, VC.pv, VC.thenF, VC.blkF, VC.retF, VC.resV, VC.oneV, VC.evo, VC.bin, VC.binI, VC.cmpI, VC.arithI, VC.ldv, VC.slv, VC.pickP, VC.holds, VC.chainOf, VC.look, VC.junk, VC.put, VC.eff, VC.callee, VC.pureB, VC.rdK, VC.rdKs, VC.okKs, VC.eqKs, VC.fillL, VC.putL, VC.stW, VC.stOK, VC.mixF, VC.setAll, Nat.reduceAdd, Nat.reduceSub, Nat.reduceMul, if_true, if_false, ↓reduceIte, forall_const, implies_true, reduceCtorEq, ne_eq, Nat.reduceBNe, Nat.reduceBEq, IntKind.signed, Nat.reduceEqDiff, Nat.reduceLeDiff, Nat.reduceLT, eq_self, Int.reduceEq, Int.reduceLT, Int.reduceLE, Int.reduceAdd, Int.reduceSub, VC.regC_nil, VC.regC_cons, VC.regCK_eq, VC.callQ, VC.tailQ, VC.goCall, VC.chStep]
        exact ⟨⟨_, rfl⟩, .inr ⟨_, hJx2⟩⟩
    · obtain rfl : i = (ups p b).length := by omega
      have hv : upAt p b (ups p b).length = -1 := by unfold upAt; rw [if_neg (by omega)]
      rw [hv] at hcb'
      simp -dsimp only [Fa.F106, rdI_of hcb', hcb', VC.Now, VC.vc, VC.lib, VC.regQ, VC.loopK, VC.reg, VC.opP, VC.pv, VC.thenF, VC.blkF, VC.retF, VC.resV, VC.oneV, VC.evo, VC.bin, VC.binI, VC.cmpI, VC.arithI, VC.ldv, VC.slv, VC.pickP, VC.holds, VC.chainOf, VC.look, VC.junk, VC.put, VC.eff, VC.callee, VC.pureB, VC.rdK, VC.rdKs, VC.okKs, VC.eqKs, VC.fillL, VC.putL, VC.stW, VC.stOK, VC.mixF, VC.setAll, Nat.reduceAdd, Nat.reduceSub, Nat.reduceMul, if_true, if_false, ↓reduceIte, forall_const, implies_true, reduceCtorEq, ne_eq, Nat.reduceBNe, Nat.reduceBEq, IntKind.signed, Nat.reduceEqDiff, Nat.reduceLeDiff, Nat.reduceLT, eq_self, Int.reduceEq, Int.reduceLT, Int.reduceLE, Int.reduceAdd, Int.reduceSub, VC.regC_nil, VC.regC_cons, VC.regCK_eq, VC.callQ, VC.tailQ, VC.goCall, VC.chStep]
      exact ⟨⟨_, rfl⟩, .inl hJi⟩
end Go.Proofs.Ytnggjekppdlaoaa
