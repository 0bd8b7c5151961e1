/- One word for all: what lies in the program's memory; who lies; what is sent to all; how many sent the same. -/
import Derived.Test.YtelfmhiaafkimaaFa
import Derived.Test.YtelfmhiaafkimaaFamHp2
import Derived.Test.YtelfmhiaafkimaaBrachaPlain
import Derived.Test.YtelfmhiaafkimaaAway
import Derived.Test.YtelfmhiaafkimaaBits2
import Derived.Test.YtelfmhiaafkimaaTail
namespace Go.Proofs.Ytelfmhiaafkimaa
open Go Go.RowKit Go.VC
set_option linter.unusedSimpArgs false
set_option linter.unusedVariables false
theorem laidOut : laidOutB Try.prog = true := by kernel_rfl
noncomputable abbrev EF : KE Try.prog 297 (Int × Int) := KE.two laidOut (by kernel_rfl)
abbrev nilS : Value := .slice none 0 0
abbrev ptrV (b : Nat) : Value := .pointer (some ⟨b, 0, none⟩)
abbrev iV (x : Int) : Value := .int .i64 x
abbrev noteL (x : Note) : List Value := [iV x.fr, iV x.to, iV x.what, iV x.n, .bool x.come]
theorem noteL_len : ∀ x, (noteL x).length = 5 := fun _ => rfl
abbrev prL (m : MindS) (mb : Nat) : List Value := [.map (some mb), .bool m.echo, .bool m.ready, .bool m.has, iV m.value]
def heardM (l : List Note) (k : Int × Int) : Option Value := (heardF l k).map iV
/-- Where a world lies. -/
structure BA where
  wb : Nat
  pg : Nat
  pc : Nat
  mb : Nat → Nat
section
variable (n f liars sender : Nat)
abbrev worldC (a : BA) (va : Value) (st : Bool) : List Value := [iV n, iV f, .int .u32 liars, iV sender, va, .slice (some ⟨a.pg, 0, none⟩) n a.pc, .bool st]
noncomputable abbrev BHead (a : BA) (s : BS) (va : Value) : List Ob := [oBox a.wb (worldC n f liars sender a va s.started), oOwn 226 5 s.all.length va (s.all.flatMap noteL), oRecs a.pg n 5 (fun i => prL (s.mi i) (a.mb i))]
noncomputable def BObs (a : BA) (s : BS) (va : Value) : List Ob := BHead n f liars sender a s va ++ (fam n (fun i => oMap EF (a.mb i) (s.mi i).cnt.length (heardM (s.mi i).cnt)) ++ [])
end
section
variable {B n f liars sender : Nat} {a : BA} {s : BS} {va : Value} {w : World}
theorem br_box (h : Hp B (BObs n f liars sender a s va) w) : Box w a.wb (worldC n f liars sender a va s.started) := h.get 0 rfl
theorem br_own (h : Hp B (BObs n f liars sender a s va) w) : OwnK w 0 226 5 s.all.length va (s.all.flatMap noteL) := h.get 1 rfl
theorem br_rec (h : Hp B (BObs n f liars sender a s va) w) : Recs w a.pg n 5 (fun i => prL (s.mi i) (a.mb i)) := h.get 2 rfl
theorem br_map (h : Hp B (BObs n f liars sender a s va) w) {i : Nat} (hi : i < n) : MapV Try.prog EF w (a.mb i) (s.mi i).cnt.length (heardM (s.mi i).cnt) := h.fget hi
theorem br_all (h : Hp B (BObs n f liars sender a s va) w) {k : Nat} (hk : k < s.all.length) : ∃ g c, va = .slice (some ⟨g, 0, none⟩) s.all.length c ∧ g < w.heap.size ∧ (∀ j v, (noteL (s.all.getD k note0))[j]? = some v → w.cell? ⟨g, k * 5 + j, none⟩ = some v) ∧ ∀ j, j < 5 → w.frozen? ⟨g, k * 5 + j, none⟩ = false := by
  have ho := br_own h
  obtain ⟨g, c, e, _, hg⟩ := ho.form (by omega)
  rw [e] at ho
  have e1 : s.all.getD k note0 = s.all[k] := by simp [List.getD, hk]
  refine ⟨g, c, e, hg, fun j v hv => ?_, fun j hj => (ho.cellL noteL_len hk hj).2⟩
  have hj : j < 5 := by
    have := (List.getElem?_eq_some_iff.1 hv).1
    rw [noteL_len] at this; exact this
  rw [(ho.cellL noteL_len hk hj).1, ← e1, hv]
theorem EF_ok {x y : Int} (hx : fits .i64 x) (hy : fits .i64 y) : EF.ok (x, y) := fun z hz => by
  simp only [List.mem_cons, List.not_mem_nil, or_false] at hz
  rcases hz with rfl | rfl
  · exact hx
  · exact hy
theorem note_key {n : Nat} {x : Note} (h : NoteOK n x) (hn : n ≤ 7) : EF.ok (x.fr, x.what) := EF_ok (fits_i64 (by have := h.fr; omega) (by have := h.fr; omega)) (fits_i64 (by have := h.what; omega) (by have := h.what; omega))
theorem lies_any {w : World} {wb n f liars : Nat} {sender : Nat} {va vp : Value} {st : Bool} (hb : Box w wb [iV n, iV f, .int .u32 liars, iV sender, va, vp, .bool st]) (hl : liars < 4294967296) {i : Nat} (hi : i < 32) :
    Calls Try.prog 105 #[ptrV wb, iV i] w fun e w' => e = .returned (.bool (liars.testBit i)) ∧ w' = w := by
  have b2 := hb.at (i := 2) rfl
  refine calls_vc (rs := [.tmp 4]) Fa.mix Try.func105 rfl Try.ntmps105 rfl (by kernel_rfl) (Nat.le_of_ble_eq_true rfl) ?_
  simp -dsimp (maxSteps := 2000000) only [Fa.F105, rdI_of b2, b2, VC.Now, VC.vc, VC.lib, VC.mapN_drewN, VC.mapB_drewN, VC.regQ, VC.loopK, VC.reg, VC.opP, VC.opS, VC.opZ, VC.nomulB, VC.pv, VC.thenF, VC.blkF, VC.retF, VC.resV, VC.oneV, VC.evo, VC.bin, VC.binI, VC.cmpI, VC.arithI, VC.ldv, VC.slv, VC.pickP, VC.holds, VC.chainOf, VC.look, VC.junk, VC.put, VC.eff, VC.callee, VC.pureB, VC.rdK, VC.rdKs, VC.okKs, VC.eqKs, VC.fillL, VC.putL, VC.stW, VC.stOK, VC.mixF, VC.setAll, Nat.reduceAdd, Nat.reduceSub, Nat.reduceMul, if_true, if_false, ↓reduceIte, forall_const, implies_true, reduceCtorEq, ne_eq, Nat.reduceBNe, Nat.reduceBEq, IntKind.signed, Nat.reduceEqDiff, Nat.reduceLeDiff, Nat.reduceLT, eq_self, Int.reduceEq, Int.reduceLT, Int.reduceLE, Int.reduceAdd, Int.reduceSub, VC.regC_nil, VC.regC_cons, VC.regCK_eq, VC.callQ, VC.tailQ, VC.goCall, VC.chStep]
  refine ⟨by omega, ?_⟩
  rw [shr_and hl hi]
  cases liars.testBit i <;> rfl
theorem sendL_succ (k : Nat) (i what v : Int) : sendL (k + 1) i what v = sendL k i what v ++ [⟨i, (k : Int), what, v, false⟩] := by
  unfold sendL
  rw [List.range_succ, List.map_append]; rfl
set_option maxRecDepth 8000 in
set_option maxHeartbeats 4000000 in
theorem send_any (h : Hp B (BObs n f liars sender a s va) w) (hlen : s.all.length + n ≤ 90000) (i what v : Int) :
    Calls Try.prog 106 #[ptrV a.wb, iV i, iV what, iV v] w fun e w' => e = .returned (.tuple #[]) ∧ ∃ va', St B (BObs n f liars sender a s va) w (BObs n f liars sender a { s with all := s.all ++ sendL n i what v } va') w' := by
  have b5 := (br_box h).at (i := 5) rfl
  have hwl := (br_box h).1
  refine calls_vc (rs := []) Fa.mix Try.func106 rfl Try.ntmps106 rfl (by kernel_rfl) (Nat.le_of_ble_eq_true rfl) ?_
  simp -dsimp (maxSteps := 2000000) only [Fa.F106, rdSA_of b5, rdSN_of b5, rdSC_of b5, b5, hwl, VC.Now, VC.vc, VC.lib, VC.mapN_drewN, VC.mapB_drewN, VC.regQ, VC.loopK, VC.reg, VC.opP, VC.opS, VC.opZ, VC.nomulB, VC.pv, VC.thenF, VC.blkF, VC.retF, VC.resV, VC.oneV, VC.evo, VC.bin, VC.binI, VC.cmpI, VC.arithI, VC.ldv, VC.slv, VC.pickP, VC.holds, VC.chainOf, VC.look, VC.junk, VC.put, VC.eff, VC.callee, VC.pureB, VC.rdK, VC.rdKs, VC.okKs, VC.eqKs, VC.fillL, VC.putL, VC.stW, VC.stOK, VC.mixF, VC.setAll, Nat.reduceAdd, Nat.reduceSub, Nat.reduceMul, if_true, if_false, ↓reduceIte, forall_const, implies_true, reduceCtorEq, ne_eq, Nat.reduceBNe, Nat.reduceBEq, IntKind.signed, Nat.reduceEqDiff, Nat.reduceLeDiff, Nat.reduceLT, eq_self, Int.reduceEq, Int.reduceLT, Int.reduceLE, Int.reduceAdd, Int.reduceSub, VC.regC_nil, VC.regC_cons, VC.regCK_eq, VC.callQ, VC.tailQ, VC.goCall, VC.chStep]
  refine loop_slots Fa.mix [14] [8, 15, 16, 17, 18, 19, 20, 21, 22, 23, 24, 25, 26, 27, 28, 29, 30, 31] (fun m vs wr => ∃ (k : Nat) (va' : Value), k + m = n ∧ vs = [.int .i64 k] ∧ St B (BObs n f liars sender a s va) w (BObs n f liars sender a { s with all := s.all ++ sendL k i what v } va') wr) n (by kernel_rfl) rfl
    ⟨0, va, by omega, rfl, by rw [show sendL 0 i what v = [] from rfl, List.append_nil]; exact St.refl h⟩ ?_
  clear b5 hwl
  rintro m vs u wr ⟨k, va', hkm, rfl, st⟩
  by_cases hk : k < n
  · have e1 : ((k : Int) < n) = True := eq_true (by omega)
    have hH := st.hp
    have ho := br_own hH
    obtain ⟨A, c, rfl, _⟩ := id ho
    have b4 := (br_box hH).at (i := 4) rfl
    have hwl := (br_box hH).1
    simp -dsimp (maxSteps := 2000000) only [Fa.F106, e1, rdSA_of b4, rdSN_of b4, rdSC_of b4, b4, hwl, VC.Now, VC.vc, VC.lib, VC.mapN_drewN, VC.mapB_drewN, VC.regQ, VC.loopK, VC.reg, VC.opP, VC.opS, VC.opZ, VC.nomulB, VC.pv, VC.thenF, VC.blkF, VC.retF, VC.resV, VC.oneV, VC.evo, VC.bin, VC.binI, VC.cmpI, VC.arithI, VC.ldv, VC.slv, VC.pickP, VC.holds, VC.chainOf, VC.look, VC.junk, VC.put, VC.eff, VC.callee, VC.pureB, VC.rdK, VC.rdKs, VC.okKs, VC.eqKs, VC.fillL, VC.putL, VC.stW, VC.stOK, VC.mixF, VC.setAll, Nat.reduceAdd, Nat.reduceSub, Nat.reduceMul, if_true, if_false, ↓reduceIte, forall_const, implies_true, reduceCtorEq, ne_eq, Nat.reduceBNe, Nat.reduceBEq, IntKind.signed, Nat.reduceEqDiff, Nat.reduceLeDiff, Nat.reduceLT, eq_self, Int.reduceEq, Int.reduceLT, Int.reduceLE, Int.reduceAdd, Int.reduceSub, VC.regC_nil, VC.regC_cons, VC.regCK_eq, VC.callQ, VC.tailQ, VC.goCall, VC.chStep]
    refine OPW_appK (us := [iV i, iV k, iV what, iV v, .bool false]) rfl Fa.apI215 rfl rfl rfl (by simp [Value.oneCell']) ho (Nat.zero_le _) (by show (s.all ++ sendL k i what v).length ≤ _; rw [List.length_append, sendL_length]; omega) (by decide) fun v7 w7 ho7 hg7 hs7 => ?_
    have e7 : (s.all ++ sendL (k + 1) i what v).flatMap noteL = (s.all ++ sendL k i what v).flatMap noteL ++ [iV i, iV k, iV what, iV v, .bool false] := by
      rw [sendL_succ, ← List.append_assoc, List.flatMap_append]; rfl
    have e8 : (s.all ++ sendL (k + 1) i what v).length = (s.all ++ sendL k i what v).length + 1 := by
      rw [sendL_succ, ← List.append_assoc, List.length_append]; rfl
    have ho8 : OwnK w7 0 226 5 (s.all ++ sendL (k + 1) i what v).length v7 ((s.all ++ sendL (k + 1) i what v).flatMap noteL) := by rw [e7, e8]; exact ho7
    obtain ⟨⟨g1, g2⟩, st7⟩ := hH.growField 0 1 rfl rfl (by decide) ho8 hg7 hs7 4 (by show 4 < 7; omega)
    have hwl7 : a.wb < w7.heap.size := by have := hg7.size; omega
    obtain ⟨A7, c7, rfl, _⟩ := id ho8
    rw [VC.Now, VC.seqK_eq]
    simp -dsimp (maxSteps := 2000000) only [Fa.F106, g1, g2, hwl7, VC.Now, VC.vc, VC.lib, VC.mapN_drewN, VC.mapB_drewN, VC.regQ, VC.loopK, VC.reg, VC.opP, VC.opS, VC.opZ, VC.nomulB, VC.pv, VC.thenF, VC.blkF, VC.retF, VC.resV, VC.oneV, VC.evo, VC.bin, VC.binI, VC.cmpI, VC.arithI, VC.ldv, VC.slv, VC.pickP, VC.holds, VC.chainOf, VC.look, VC.junk, VC.put, VC.eff, VC.callee, VC.pureB, VC.rdK, VC.rdKs, VC.okKs, VC.eqKs, VC.fillL, VC.putL, VC.stW, VC.stOK, VC.mixF, VC.setAll, Nat.reduceAdd, Nat.reduceSub, Nat.reduceMul, if_true, if_false, ↓reduceIte, forall_const, implies_true, reduceCtorEq, ne_eq, Nat.reduceBNe, Nat.reduceBEq, IntKind.signed, Nat.reduceEqDiff, Nat.reduceLeDiff, Nat.reduceLT, eq_self, Int.reduceEq, Int.reduceLT, Int.reduceLE, Int.reduceAdd, Int.reduceSub, VC.regC_nil, VC.regC_cons, VC.regCK_eq, VC.callQ, VC.tailQ, VC.goCall, VC.chStep]
    exact ⟨fits_i64_nat (by omega), SAME.intro (by kernel_rfl), m - 1, by omega, k + 1, _, by omega, rfl, st.trans st7⟩
  · obtain rfl : k = n := by omega
    have e1 : ((k : Int) < k) = False := eq_false (by omega)
    simp -dsimp (maxSteps := 2000000) only [Fa.F106, e1, VC.Now, VC.vc, VC.lib, VC.mapN_drewN, VC.mapB_drewN, VC.regQ, VC.loopK, VC.reg, VC.opP, VC.opS, VC.opZ, VC.nomulB, VC.pv, VC.thenF, VC.blkF, VC.retF, VC.resV, VC.oneV, VC.evo, VC.bin, VC.binI, VC.cmpI, VC.arithI, VC.ldv, VC.slv, VC.pickP, VC.holds, VC.chainOf, VC.look, VC.junk, VC.put, VC.eff, VC.callee, VC.pureB, VC.rdK, VC.rdKs, VC.okKs, VC.eqKs, VC.fillL, VC.putL, VC.stW, VC.stOK, VC.mixF, VC.setAll, Nat.reduceAdd, Nat.reduceSub, Nat.reduceMul, if_true, if_false, ↓reduceIte, forall_const, implies_true, reduceCtorEq, ne_eq, Nat.reduceBNe, Nat.reduceBEq, IntKind.signed, Nat.reduceEqDiff, Nat.reduceLeDiff, Nat.reduceLT, eq_self, Int.reduceEq, Int.reduceLT, Int.reduceLE, Int.reduceAdd, Int.reduceSub, VC.regC_nil, VC.regC_cons, VC.regCK_eq, VC.callQ, VC.tailQ, VC.goCall, VC.chStep]
    exact ⟨va', st⟩
set_option maxRecDepth 8000 in
set_option maxHeartbeats 4000000 in
theorem many_any (h : Hp B (BObs n f liars sender a s va) w) {i : Nat} (hi : i < n) (hn : n ≤ 7) (hc : CntOK n (s.mi i).cnt) (what v : Int) (hlen : (s.mi i).cnt.length ≤ 90000) :
    Calls Try.prog 124 #[.pointer (some ⟨a.pg, i * 5, none⟩), iV what, iV v] w fun e w' => e = .returned (iV ((s.mi i).cnt.countP fun y => decide (y.what = what ∧ y.n = v))) ∧ Below w.heap.size w w' := by
  have hR := br_rec h
  have c0 := hR.at hi (j := 0) (by omega) rfl
  rw [Nat.add_zero] at c0
  have hgl := hR.1
  have hM := br_map h hi
  refine calls_vc (rs := [.tmp 6]) Fa.mix Try.func124 rfl Try.ntmps124 rfl (by kernel_rfl) (Nat.le_of_ble_eq_true rfl) ?_
  simp -dsimp (maxSteps := 2000000) only [Fa.F124, rdM_of c0, c0, hgl, VC.Now, VC.vc, VC.lib, VC.mapN_drewN, VC.mapB_drewN, VC.regQ, VC.loopK, VC.reg, VC.opP, VC.opS, VC.opZ, VC.nomulB, VC.pv, VC.thenF, VC.blkF, VC.retF, VC.resV, VC.oneV, VC.evo, VC.bin, VC.binI, VC.cmpI, VC.arithI, VC.ldv, VC.slv, VC.pickP, VC.holds, VC.chainOf, VC.look, VC.junk, VC.put, VC.eff, VC.callee, VC.pureB, VC.rdK, VC.rdKs, VC.okKs, VC.eqKs, VC.fillL, VC.putL, VC.stW, VC.stOK, VC.mixF, VC.setAll, Nat.reduceAdd, Nat.reduceSub, Nat.reduceMul, if_true, if_false, ↓reduceIte, forall_const, implies_true, reduceCtorEq, ne_eq, Nat.reduceBNe, Nat.reduceBEq, IntKind.signed, Nat.reduceEqDiff, Nat.reduceLeDiff, Nat.reduceLT, eq_self, Int.reduceEq, Int.reduceLT, Int.reduceLE, Int.reduceAdd, Int.reduceSub, VC.regC_nil, VC.regC_cons, VC.regCK_eq, VC.callQ, VC.tailQ, VC.goCall, VC.chStep]
  refine OPW_rangeV hM rfl (by kernel_rfl) rfl fun w1 hRg hB1 hs1 => ?_
  rw [VC.Now, VC.seqK_eq]
  simp -dsimp (maxSteps := 2000000) only [Fa.F124, VC.Now, VC.vc, VC.lib, VC.mapN_drewN, VC.mapB_drewN, VC.regQ, VC.loopK, VC.reg, VC.opP, VC.opS, VC.opZ, VC.nomulB, VC.pv, VC.thenF, VC.blkF, VC.retF, VC.resV, VC.oneV, VC.evo, VC.bin, VC.binI, VC.cmpI, VC.arithI, VC.ldv, VC.slv, VC.pickP, VC.holds, VC.chainOf, VC.look, VC.junk, VC.put, VC.eff, VC.callee, VC.pureB, VC.rdK, VC.rdKs, VC.okKs, VC.eqKs, VC.fillL, VC.putL, VC.stW, VC.stOK, VC.mixF, VC.setAll, Nat.reduceAdd, Nat.reduceSub, Nat.reduceMul, if_true, if_false, ↓reduceIte, forall_const, implies_true, reduceCtorEq, ne_eq, Nat.reduceBNe, Nat.reduceBEq, IntKind.signed, Nat.reduceEqDiff, Nat.reduceLeDiff, Nat.reduceLT, eq_self, Int.reduceEq, Int.reduceLT, Int.reduceLE, Int.reduceAdd, Int.reduceSub, VC.regC_nil, VC.regC_cons, VC.regCK_eq, VC.callQ, VC.tailQ, VC.goCall, VC.chStep]
  refine loop_slots Fa.mix [7] [8, 9, 15, 16, 17, 18, 19, 20, 21, 22, 23, 24, 25, 26, 27, 28, 29, 30] (fun m vs wr => ∃ left : Int × Int → Prop, vs = [.int .i64 (countL (s.mi i).cnt what v left)] ∧ RangeV Try.prog EF wr (a.mb i) w.heap.size (s.mi i).cnt.length (heardM (s.mi i).cnt) left m ∧ Below w.heap.size w wr) (s.mi i).cnt.length (by kernel_rfl) rfl
    ⟨_, ?_, hRg, hB1⟩ ?_
  · rw [countL_start]
    · rfl
    · intro y hy
      show (heardM (s.mi i).cnt (y.fr, y.what)).isSome = true
      unfold heardM
      rw [Option.isSome_map, heardF_known]
      unfold knownB
      exact List.any_eq_true.2 ⟨y, hy, by simp⟩
  rintro m vs u wr ⟨left, rfl, hRg, hB⟩
  simp -dsimp (maxSteps := 2000000) only [Fa.F124, VC.Now, VC.vc, VC.lib, VC.mapN_drewN, VC.mapB_drewN, VC.regQ, VC.loopK, VC.reg, VC.opP, VC.opS, VC.opZ, VC.nomulB, VC.pv, VC.thenF, VC.blkF, VC.retF, VC.resV, VC.oneV, VC.evo, VC.bin, VC.binI, VC.cmpI, VC.arithI, VC.ldv, VC.slv, VC.pickP, VC.holds, VC.chainOf, VC.look, VC.junk, VC.put, VC.eff, VC.callee, VC.pureB, VC.rdK, VC.rdKs, VC.okKs, VC.eqKs, VC.fillL, VC.putL, VC.stW, VC.stOK, VC.mixF, VC.setAll, Nat.reduceAdd, Nat.reduceSub, Nat.reduceMul, if_true, if_false, ↓reduceIte, forall_const, implies_true, reduceCtorEq, ne_eq, Nat.reduceBNe, Nat.reduceBEq, IntKind.signed, Nat.reduceEqDiff, Nat.reduceLeDiff, Nat.reduceLT, eq_self, Int.reduceEq, Int.reduceLT, Int.reduceLE, Int.reduceAdd, Int.reduceSub, VC.regC_nil, VC.regC_cons, VC.regCK_eq, VC.callQ, VC.tailQ, VC.goCall, VC.chStep]
  refine OPW_nextV hRg rfl rfl (fun h0 hno => ?_) (fun x vx w2 cnt' hx hlx hmx hRg2 hlt hA2 hs2 hE => ?_)
  · rw [VC.Now, VC.seqK_eq]
    simp -dsimp (maxSteps := 2000000) only [Fa.F124, VC.Now, VC.vc, VC.lib, VC.mapN_drewN, VC.mapB_drewN, VC.regQ, VC.loopK, VC.reg, VC.opP, VC.opS, VC.opZ, VC.nomulB, VC.pv, VC.thenF, VC.blkF, VC.retF, VC.resV, VC.oneV, VC.evo, VC.bin, VC.binI, VC.cmpI, VC.arithI, VC.ldv, VC.slv, VC.pickP, VC.holds, VC.chainOf, VC.look, VC.junk, VC.put, VC.eff, VC.callee, VC.pureB, VC.rdK, VC.rdKs, VC.okKs, VC.eqKs, VC.fillL, VC.putL, VC.stW, VC.stOK, VC.mixF, VC.setAll, Nat.reduceAdd, Nat.reduceSub, Nat.reduceMul, if_true, if_false, ↓reduceIte, forall_const, implies_true, reduceCtorEq, ne_eq, Nat.reduceBNe, Nat.reduceBEq, IntKind.signed, Nat.reduceEqDiff, Nat.reduceLeDiff, Nat.reduceLT, eq_self, Int.reduceEq, Int.reduceLT, Int.reduceLE, Int.reduceAdd, Int.reduceSub, VC.regC_nil, VC.regC_cons, VC.regCK_eq, VC.callQ, VC.tailQ, VC.goCall, VC.chStep]
    rw [countL_end fun y hy => hno _ (note_key (hc.ok y hy) hn)]
    exact ⟨rfl, hB⟩
  · obtain ⟨fr, wh⟩ := x
    obtain ⟨x0, hx0, rfl⟩ : ∃ x0, heardF (s.mi i).cnt (fr, wh) = some x0 ∧ iV x0 = vx := Option.map_eq_some_iff.1 hmx
    obtain ⟨y, hy, hyk, hyn⟩ := heardF_some hx0
    have hE' : EntryV Try.prog w2 w.heap.size (.agg #[.int .i64 fr, .int .i64 wh]) (iV x0) := hE
    have hB2 : Below w.heap.size w w2 := hA2.to_below hB hB.size fun k hk => by rw [hk]; exact Nat.le_refl _
    rw [VC.Now, VC.seqK_eq]
    simp -dsimp (maxSteps := 2000000) only [Fa.F124, VC.Now, VC.vc, VC.lib, VC.mapN_drewN, VC.mapB_drewN, VC.regQ, VC.loopK, VC.reg, VC.opP, VC.opS, VC.opZ, VC.nomulB, VC.pv, VC.thenF, VC.blkF, VC.retF, VC.resV, VC.oneV, VC.evo, VC.bin, VC.binI, VC.cmpI, VC.arithI, VC.ldv, VC.slv, VC.pickP, VC.holds, VC.chainOf, VC.look, VC.junk, VC.put, VC.eff, VC.callee, VC.pureB, VC.rdK, VC.rdKs, VC.okKs, VC.eqKs, VC.fillL, VC.putL, VC.stW, VC.stOK, VC.mixF, VC.setAll, Nat.reduceAdd, Nat.reduceSub, Nat.reduceMul, if_true, if_false, ↓reduceIte, forall_const, implies_true, reduceCtorEq, ne_eq, Nat.reduceBNe, Nat.reduceBEq, IntKind.signed, Nat.reduceEqDiff, Nat.reduceLeDiff, Nat.reduceLT, eq_self, Int.reduceEq, Int.reduceLT, Int.reduceLE, Int.reduceAdd, Int.reduceSub, VC.regC_nil, VC.regC_cons, VC.regCK_eq, VC.callQ, VC.tailQ, VC.goCall, VC.chStep]
    refine OPW_entryV hE' rfl rfl ?_
    rw [VC.Now, VC.seqK_eq]
    obtain ⟨f1, f2, f3⟩ := boxMade w2 [iV 0, iV 0] [iV fr, iV wh] 297 rfl (by intro v hv; simp at hv; rcases hv with rfl | rfl <;> rfl)
    have hRg3 := hRg2.below f3
    have hB3 := hB2.trans (f3.mono hB2.size)
    have k1 := f2.at (i := 1) rfl
    have hkl := f2.1
    have htk := countL_take (left' := fun z => left z ∧ z ≠ (fr, wh)) (w := what) (v := v) (left := left) (y := y) (by rw [hyk]; exact hlx) (fun z => by rw [hyk]) hc.one hy
    simp only [Prod.mk.injEq] at hyk
    rw [hyk.2, hyn] at htk
    have hcl : countL (s.mi i).cnt what v left ≤ 90000 := Nat.le_trans (by unfold countL; exact List.countP_le_length) hlen
    by_cases q1 : wh = what
    · have e1 := eq_true q1
      by_cases q2 : x0 = v
      · have e2 := eq_true q2
        rw [if_pos ⟨q1, q2⟩] at htk
        simp -dsimp (maxSteps := 2000000) only [Fa.F124, rdI_of k1, k1, hkl, e1, e2, undef, tu, uf, ul, ur, VC.Now, VC.vc, VC.lib, VC.mapN_drewN, VC.mapB_drewN, VC.regQ, VC.loopK, VC.reg, VC.opP, VC.opS, VC.opZ, VC.nomulB, VC.pv, VC.thenF, VC.blkF, VC.retF, VC.resV, VC.oneV, VC.evo, VC.bin, VC.binI, VC.cmpI, VC.arithI, VC.ldv, VC.slv, VC.pickP, VC.holds, VC.chainOf, VC.look, VC.junk, VC.put, VC.eff, VC.callee, VC.pureB, VC.rdK, VC.rdKs, VC.okKs, VC.eqKs, VC.fillL, VC.putL, VC.mixF, VC.setAll, Nat.reduceAdd, Nat.reduceSub, Nat.reduceMul, if_true, if_false, ↓reduceIte, forall_const, implies_true, reduceCtorEq, ne_eq, Nat.reduceBNe, Nat.reduceBEq, IntKind.signed, Nat.reduceEqDiff, Nat.reduceLeDiff, Nat.reduceLT, eq_self, Int.reduceEq, Int.reduceLT, Int.reduceLE, Int.reduceAdd, Int.reduceSub, VC.regC_nil, VC.regC_cons, VC.regCK_eq, VC.callQ, VC.tailQ, VC.goCall, VC.chStep]
        exact ⟨f1, fun u2 => ⟨fits_i64 (by omega) (by omega), SAME.intro (by kernel_rfl), cnt', hlt, _, by rw [htk]; simp, hRg3, hB3⟩⟩
      · have e2 := eq_false q2
        rw [if_neg (fun hh => q2 hh.2)] at htk
        simp -dsimp (maxSteps := 2000000) only [Fa.F124, rdI_of k1, k1, hkl, e1, e2, undef, tu, uf, ul, ur, VC.Now, VC.vc, VC.lib, VC.mapN_drewN, VC.mapB_drewN, VC.regQ, VC.loopK, VC.reg, VC.opP, VC.opS, VC.opZ, VC.nomulB, VC.pv, VC.thenF, VC.blkF, VC.retF, VC.resV, VC.oneV, VC.evo, VC.bin, VC.binI, VC.cmpI, VC.arithI, VC.ldv, VC.slv, VC.pickP, VC.holds, VC.chainOf, VC.look, VC.junk, VC.put, VC.eff, VC.callee, VC.pureB, VC.rdK, VC.rdKs, VC.okKs, VC.eqKs, VC.fillL, VC.putL, VC.mixF, VC.setAll, Nat.reduceAdd, Nat.reduceSub, Nat.reduceMul, if_true, if_false, ↓reduceIte, forall_const, implies_true, reduceCtorEq, ne_eq, Nat.reduceBNe, Nat.reduceBEq, IntKind.signed, Nat.reduceEqDiff, Nat.reduceLeDiff, Nat.reduceLT, eq_self, Int.reduceEq, Int.reduceLT, Int.reduceLE, Int.reduceAdd, Int.reduceSub, VC.regC_nil, VC.regC_cons, VC.regCK_eq, VC.callQ, VC.tailQ, VC.goCall, VC.chStep]
        exact ⟨f1, fun u2 => ⟨SAME.intro (by kernel_rfl), cnt', hlt, _, by rw [htk]; simp, hRg3, hB3⟩⟩
    · have e1 := eq_false q1
      rw [if_neg (fun hh => q1 hh.1)] at htk
      simp -dsimp (maxSteps := 2000000) only [Fa.F124, rdI_of k1, k1, hkl, e1, undef, tu, uf, ul, ur, VC.Now, VC.vc, VC.lib, VC.mapN_drewN, VC.mapB_drewN, VC.regQ, VC.loopK, VC.reg, VC.opP, VC.opS, VC.opZ, VC.nomulB, VC.pv, VC.thenF, VC.blkF, VC.retF, VC.resV, VC.oneV, VC.evo, VC.bin, VC.binI, VC.cmpI, VC.arithI, VC.ldv, VC.slv, VC.pickP, VC.holds, VC.chainOf, VC.look, VC.junk, VC.put, VC.eff, VC.callee, VC.pureB, VC.rdK, VC.rdKs, VC.okKs, VC.eqKs, VC.fillL, VC.putL, VC.mixF, VC.setAll, Nat.reduceAdd, Nat.reduceSub, Nat.reduceMul, if_true, if_false, ↓reduceIte, forall_const, implies_true, reduceCtorEq, ne_eq, Nat.reduceBNe, Nat.reduceBEq, IntKind.signed, Nat.reduceEqDiff, Nat.reduceLeDiff, Nat.reduceLT, eq_self, Int.reduceEq, Int.reduceLT, Int.reduceLE, Int.reduceAdd, Int.reduceSub, VC.regC_nil, VC.regC_cons, VC.regCK_eq, VC.callQ, VC.tailQ, VC.goCall, VC.chStep]
      exact ⟨f1, fun u2 => ⟨SAME.intro (by kernel_rfl), cnt', hlt, _, by rw [htk]; simp, hRg3, hB3⟩⟩
end
end Go.Proofs.Ytelfmhiaafkimaa
