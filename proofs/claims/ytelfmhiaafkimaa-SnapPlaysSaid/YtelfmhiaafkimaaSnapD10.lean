/- A picture of what moves, the document's: its whole run. -/
import Derived.Test.YtelfmhiaafkimaaSnapD9
namespace Go.Proofs.Ytelfmhiaafkimaa
open Go Go.RowKit Go.VC
set_option linter.unusedSimpArgs false
set_option linter.unusedVariables false
theorem box_rd {w : World} {b : Nat} {cs : List Value} (h : Box w b cs) : Rd w (some ⟨b, 0, none⟩) cs := fun _ => ⟨b, 0, rfl, h.1, fun j hj => by rw [Nat.zero_add, h.at (i := j) (List.getElem?_eq_getElem hj), List.getElem?_eq_getElem hj]⟩
set_option maxRecDepth 8000 in
set_option maxHeartbeats 8000000 in
theorem snapD_end : snapDBut2.1.2 := by
  unfold snapDBut2
  refine ⟨?_, trivial⟩
  intro A c0 A2 cap m g w hm wa rb hrb wb ob w4 gl y1 u2 y2 gm cm go co mm u3 z1 t q vc hlen codes hcl s e8 wy m2 u4 wx n bv rv hBx h1 hn hnn36 hinv hfm hH e9 e10
  obtain ⟨Ac, cc, rfl, _⟩ := id (hH.get 1 rfl : OwnK wx 0 24 1 t vc _)
  obtain ⟨Ab, cb, rfl, _⟩ := id (hH.get 0 rfl : OwnK wx 0 23 1 (n * n) bv _)
  rw [doneK_all] at hH
  have bo : Box wx ob [.slice Ac t cc, .slice (some ⟨gm, 0, none⟩) n cm, .slice (some ⟨go, 0, none⟩) n co, .slice Ab (n * n) cb, .bool (doneS n s)] := hH.get 3 rfl
  have b0 := bo.at (i := 0) rfl
  have b1 := bo.at (i := 1) rfl
  have b2 := bo.at (i := 2) rfl
  have b3 := bo.at (i := 3) rfl
  have b4 := bo.at (i := 4) rfl
  have hol := bo.1
  obtain ⟨ok, st2⟩ := hH.allBox 2 rfl (vs := [.slice Ac t cc, .slice (some ⟨gm, 0, none⟩) n cm, .slice (some ⟨go, 0, none⟩) n co, .slice Ab (n * n) cb, .bool (doneS n s)]) rfl (by intro v hv; simp at hv; rcases hv with rfl | rfl | rfl | rfl | rfl <;> rfl)
  have rb5 : Box _ rb [.slice Ac t cc, .slice (some ⟨gm, 0, none⟩) n cm, .slice (some ⟨go, 0, none⟩) n co, .slice Ab (n * n) cb, .bool (doneS n s)] := st2.hp.get 2 rfl
  have t0 := rb5.at (i := 0) rfl
  have t1 := rb5.at (i := 1) rfl
  have t2 := rb5.at (i := 2) rfl
  have t3 := rb5.at (i := 3) rfl
  have t4 := rb5.at (i := 4) rfl
  simp -dsimp (maxSteps := 2000000) only [Fa.F25, e10, hol, rdSA_of b0, rdSN_of b0, rdSC_of b0, b0, rdSA_of b1, rdSN_of b1, rdSC_of b1, b1, rdSA_of b2, rdSN_of b2, rdSC_of b2, b2, rdSA_of b3, rdSN_of b3, rdSC_of b3, b3, rdB_of b4, b4, rdSA_of t0, rdSN_of t0, rdSC_of t0, t0, rdSA_of t1, rdSN_of t1, rdSC_of t1, t1, rdSA_of t2, rdSN_of t2, rdSC_of t2, t2, rdSA_of t3, rdSN_of t3, rdSC_of t3, t3, rdB_of t4, t4, VC.Now, VC.vc, VC.lib, VC.mapN_drewN, VC.mapB_drewN, VC.regQ, VC.loopK, VC.reg, VC.opP, VC.opS, VC.opZ, VC.nomulB, VC.pv, VC.thenF, VC.blkF, VC.retF, VC.resV, VC.oneV, VC.evo, VC.bin, VC.binI, VC.cmpI, VC.arithI, VC.ldv, VC.slv, VC.pickP, VC.holds, VC.chainOf, VC.look, VC.junk, VC.put, VC.eff, VC.callee, VC.pureB, VC.rdK, VC.rdKs, VC.okKs, VC.eqKs, VC.fillL, VC.putL, VC.mixF, VC.setAll, Nat.reduceAdd, Nat.reduceSub, Nat.reduceMul, if_true, if_false, ↓reduceIte, forall_const, implies_true, reduceCtorEq, ne_eq, Nat.reduceBNe, Nat.reduceBEq, IntKind.signed, Nat.reduceEqDiff, Nat.reduceLeDiff, Nat.reduceLT, eq_self, Int.reduceEq, Int.reduceLT, Int.reduceLE, Int.reduceAdd, Int.reduceSub, VC.regC_nil, VC.regC_cons, VC.regCK_eq, VC.callQ, VC.tailQ, VC.goCall, VC.chStep]
  have hE : Hp rb ([oOwn 23 1 (n * n) (.slice Ab (n * n) cb) ((List.range (n * n)).map rv), oOwn 24 1 t (.slice Ac t cc) (codes.map (Value.int .i64)), oBox rb [.slice Ac t cc, .slice (some ⟨gm, 0, none⟩) n cm, .slice (some ⟨go, 0, none⟩) n co, .slice Ab (n * n) cb, .bool (doneS n s)]] ++ (DObs n ⟨ob, gm, cm, go, co, gl⟩ (dOf n s) q (.slice Ac t cc) (.slice Ab (n * n) cb) (doneS n s) ++ fam (n * n) (rowF n s rv))) _ := st2.hp
  refine ⟨ok, _, rfl, fun w2 hA => ?_, by rw [hrb]; exact hBx.trans (st2.below hH)⟩
  replace hE := hE.agree hA (fun g hg (hx : g < w.heap.size) => by have := (hE.foot_lt hg).1; omega)
  have q0 := (hE.get 1 rfl : OwnK _ 0 24 1 t _ _)
  have q1 : Box _ gm ((List.range n).map fun i => iV (s.money i)) := hE.get 4 rfl
  have q2 : Box _ go ((List.range n).map fun i => iV (s.own i)) := hE.get 5 rfl
  have q3 := (hE.get 0 rfl : OwnK _ 0 23 1 (n * n) _ _)
  have hF := hp_right (hp_right hE)
  refine ⟨Ac, cc, some ⟨gm, 0, none⟩, cm, some ⟨go, 0, none⟩, co, Ab, cb, rfl, hcl, q0.rd.2, by rw [List.map_map]; exact box_rd q1, by rw [List.map_map]; exact box_rd q2, fun i hi => ?_⟩
  have hi : i < n * n := by unfold btwS at hi; simpa using hi
  have hget : (btwS n s).getD i [] = rowS n s i := by unfold btwS rowS; simp [hi]
  obtain ⟨gb, ob2, hab, hgb, hcb⟩ := q3.rd.2 (by simp; omega)
  have hbi := hcb i (by simpa using hi)
  have hrow : OwnK _ 0 3 1 (rowS n s i).length (rv i) ((rowS n s i).map iV) := (hF.1 (rowF n s rv i) (List.mem_map.2 ⟨i, by simpa using hi, rfl⟩)).1
  obtain ⟨An, cn, en, _⟩ := id hrow
  rw [show ((List.range (n * n)).map rv)[i]? = some (rv i) by simp [hi], en] at hbi
  rw [en] at hrow
  rw [hget]
  exact ⟨gb, ob2, An, cn, hab, hgb, hbi, hrow.rd.2⟩
theorem snapD_any {A : Option Addr} {n c0 : Nat} {A2 : Option Addr} {len cap : Nat} {m : Nat → Int} {g : Nat → PassC} {w : World} (hv : RdT w A n 1 (fun i => [.int .i64 (m i)])) (hm : ∀ i, 0 ≤ m i ∧ m i ≤ 1000) (hr : RdT w A2 len 4 (fun i => passL (g i))) (hg : ∀ i, fits .i64 (g i).n) (h1 : 1 ≤ n) (hn : n ≤ 6) (hlen : len ≤ 120) :
    Calls Try.prog 25 #[.slice A n c0, .slice A2 len cap] w fun e w' => ∃ v, e = .returned v ∧ (∀ w2 : World, Agree (fun j => j < w.heap.size) w' w2 → SnapQ n len ((List.range len).map (ncode n m g)) (nst n m g len) v w2) ∧ Below w.heap.size w w' :=
  snapDBut.2 (snapDBut2.2 ⟨snapD_row, snapD_end⟩) A n c0 A2 len cap m g w hv hm hr hg h1 hn hlen
end Go.Proofs.Ytelfmhiaafkimaa
