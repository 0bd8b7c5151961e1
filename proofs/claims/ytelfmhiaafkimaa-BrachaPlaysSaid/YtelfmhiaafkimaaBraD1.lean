/- One word for all, the document: what one has done by what came to it. -/
import Derived.Test.YtelfmhiaafkimaaBra1
import Derived.Test.YtelfmhiaafkimaaAway
import Derived.Test.YtelfmhiaafkimaaCut
namespace Go.Proofs.Ytelfmhiaafkimaa
open Go Go.RowKit Go.VC
set_option linter.unusedSimpArgs false
set_option linter.unusedVariables false
abbrev minL (m : MindS) : List Value := [.bool m.echo, .bool m.ready, .bool m.has, iV m.word, iV m.value]
theorem wrap64d {x : Int} {a : Nat} (h : x = a) (ha : a ≤ 1000000) : IntKind.i64.wrap x = a := by
  rw [h]; exact fits_wrap (fits_i64 (by omega) (by omega))
def knownK (l : List Note) (x : Note) (k : Nat) : Bool := (l.take k).any fun y => decide (y.fr = x.fr ∧ y.what = x.what)
def sameK (l : List Note) (x : Note) (k : Nat) : Nat := ((l.take k).countP fun y => decide (y.what = x.what ∧ y.n = x.n)) + 1
theorem knownK_succ {l : List Note} {x : Note} {k : Nat} (hk : k < l.length) : knownK l x (k + 1) = (knownK l x k || decide ((l.getD k note0).fr = x.fr ∧ (l.getD k note0).what = x.what)) := by
  unfold knownK
  have : l.getD k note0 = l[k] := by simp [List.getD, hk]
  rw [List.take_succ_eq_append_getElem hk, List.any_append, this]
  simp
theorem sameK_succ {l : List Note} {x : Note} {k : Nat} (hk : k < l.length) : sameK l x (k + 1) = sameK l x k + if (l.getD k note0).what = x.what ∧ (l.getD k note0).n = x.n then 1 else 0 := by
  unfold sameK
  have : l.getD k note0 = l[k] := by simp [List.getD, hk]
  rw [List.take_succ_eq_append_getElem hk, List.countP_append, this]
  by_cases h : l[k].what = x.what ∧ l[k].n = x.n
  · rw [if_pos h]; simp [h]
  · rw [if_neg h]; simp [h]
theorem knownK_all (l : List Note) (x : Note) : knownK l x l.length = knownB l x := by unfold knownK knownB; rw [List.take_length]
theorem sameK_all (l : List Note) (x : Note) : sameK l x l.length = sameN l x := by unfold sameK sameN; rw [List.take_length]
theorem sameK_le (l : List Note) (x : Note) (k : Nat) : sameK l x k ≤ l.length + 1 := by
  unfold sameK
  have h1 : ((l.take k).countP fun y => decide (y.what = x.what ∧ y.n = x.n)) ≤ (l.take k).length := List.countP_le_length
  rw [List.length_take] at h1
  omega
abbrev z5m : List Value := [.bool false, .bool false, .bool false, iV 0, iV 0]
noncomputable abbrev MObs (rb mb : Nat) (m : MindS) (vc : Value) : List Ob := [oBox rb z5m, oBox mb (minL m), oOwn 280 5 m.cnt.length vc (m.cnt.flatMap noteL)]
theorem mindL_take {n f : Nat} {sender : Int} {l : List Note} {k : Nat} (hk : k < l.length) : mindL n f sender (l.take (k + 1)) = mindF n f sender (mindL n f sender (l.take k)) (l.getD k note0) := by
  have : l.getD k note0 = l[k] := by simp [List.getD, hk]
  rw [List.take_succ_eq_append_getElem hk, mindL_snoc, this]
theorem mindF_cnt {n f : Nat} {sender : Int} (m : MindS) (x : Note) : (mindF n f sender m x).cnt.length ≤ m.cnt.length + 1 := by
  unfold mindF
  split
  · exact Nat.le_add_right _ _
  · show (m.cnt ++ [x]).length ≤ _
    rw [List.length_append]; exact Nat.le_refl _
theorem foldl_cnt {n f : Nat} {sender : Int} : ∀ (l : List Note) (m : MindS), (l.foldl (mindF n f sender) m).cnt.length ≤ m.cnt.length + l.length
  | [], m => Nat.le_refl _
  | x :: l, m => by
    have h1 := foldl_cnt (n := n) (f := f) (sender := sender) l (mindF n f sender m x)
    have h2 := mindF_cnt (n := n) (f := f) (sender := sender) m x
    rw [List.foldl_cons, List.length_cons]; omega
theorem mindL_cnt {n f : Nat} {sender : Int} (l : List Note) : (mindL n f sender l).cnt.length ≤ l.length := by
  have := foldl_cnt (n := n) (f := f) (sender := sender) l mind0
  unfold mindL
  have e : mind0.cnt.length = 0 := rfl
  omega
set_option maxRecDepth 8000 in
set_option maxHeartbeats 8000000 in
theorem mind_any (n f sender : Nat) (A : Option Addr) (c : Nat) (l : List Note) (w : World) (hr : RdT w A l.length 5 (fun i => noteL (l.getD i note0))) (hl : l.length ≤ 5000) (hn : n ≤ 7) (hf : f ≤ 2) (hok : ∀ x ∈ l, NoteOK n x) :
    Calls Try.prog 78 #[iV n, iV f, iV sender, .slice A l.length c] w fun e w' => e = .returned (.agg #[.bool (mindL n f sender l).echo, .bool (mindL n f sender l).ready, .bool (mindL n f sender l).has, iV (mindL n f sender l).word, iV (mindL n f sender l).value]) ∧ Below w.heap.size w w' := by
  have hB0 : Below w.heap.size w (w.alloc (.cells z5m.toArray 235)) := (Below.refl _ _).alloc (Nat.le_refl _) _
  have hH0 := ((Hp.nil (B := w.heap.size) (Nat.le_refl _)).st_add (o := oBox w.heap.size z5m) hB0 (Box.new w _ _) (fun g hg => by cases hg; exact Nat.le_refl _)).hp
  refine calls_vc (rs := [.cell 8 235]) Fa.mix Try.func78 rfl Try.ntmps78 rfl (by kernel_rfl) (Nat.le_of_ble_eq_true rfl) ?_
  (repeat rw [vc_seq]); refine vc_plain _ fun Q hQ => ?_; simp -dsimp (maxSteps := 2000000) only [Fa.F78, VC.Now, VC.vc_skip, VC.vc_ret, VC.vc_exit, VC.vc_block, VC.vc_cond, VC.vc_region, VC.lib, VC.mapN_drewN, VC.mapB_drewN, VC.regQ, VC.loopK, VC.reg, VC.opP, VC.opS, VC.opZ, VC.nomulB, VC.pv, VC.thenF, VC.blkF, VC.retF, VC.resV, VC.oneV, VC.evo, VC.bin, VC.binI, VC.cmpI, VC.arithI, VC.ldv, VC.slv, VC.pickP, VC.holds, VC.chainOf, VC.look, VC.junk, VC.put, VC.eff, VC.callee, VC.pureB, VC.rdK, VC.rdKs, VC.okKs, VC.eqKs, VC.fillL, VC.putL, VC.stW, VC.stOK, VC.mixF, VC.setAll, Nat.reduceAdd, Nat.reduceSub, Nat.reduceMul, if_true, if_false, ↓reduceIte, forall_const, implies_true, reduceCtorEq, ne_eq, Nat.reduceBNe, Nat.reduceBEq, IntKind.signed, Nat.reduceEqDiff, Nat.reduceLeDiff, Nat.reduceLT, eq_self, Int.reduceEq, Int.reduceLT, Int.reduceLE, Int.reduceAdd, Int.reduceSub, VC.regC_nil, VC.regC_cons, VC.regCK_eq, VC.callQ, VC.tailQ, VC.goCall, VC.chStep]
  change Q _ _ (w.alloc (.cells z5m.toArray 235))
  generalize w.alloc (.cells z5m.toArray 235) = wa at hH0 hB0 ⊢
  generalize hrb : w.heap.size = rb at hH0 hB0 ⊢
  obtain ⟨f1, f2, f3⟩ := boxMade wa z5m z5m 235 rfl (by intro v hv; simp at hv; rcases hv with rfl | rfl <;> rfl)
  subst hQ; simp -dsimp (maxSteps := 2000000) only [VC.Now, VC.vc_skip, VC.vc_ret, VC.vc_exit, VC.vc_block, VC.vc_cond, VC.vc_region, VC.lib, VC.mapN_drewN, VC.mapB_drewN, VC.regQ, VC.loopK, VC.reg, VC.opP, VC.opS, VC.opZ, VC.nomulB, VC.pv, VC.thenF, VC.blkF, VC.retF, VC.resV, VC.oneV, VC.evo, VC.bin, VC.binI, VC.cmpI, VC.arithI, VC.ldv, VC.slv, VC.pickP, VC.holds, VC.chainOf, VC.look, VC.junk, VC.put, VC.eff, VC.callee, VC.pureB, VC.rdK, VC.rdKs, VC.okKs, VC.eqKs, VC.fillL, VC.putL, VC.stW, VC.stOK, VC.mixF, VC.setAll, Nat.reduceAdd, Nat.reduceSub, Nat.reduceMul, if_true, if_false, ↓reduceIte, forall_const, implies_true, reduceCtorEq, ne_eq, Nat.reduceBNe, Nat.reduceBEq, IntKind.signed, Nat.reduceEqDiff, Nat.reduceLeDiff, Nat.reduceLT, eq_self, Int.reduceEq, Int.reduceLT, Int.reduceLE, Int.reduceAdd, Int.reduceSub, VC.regC_nil, VC.regC_cons, VC.regCK_eq, VC.callQ, VC.tailQ, VC.goCall, VC.chStep]; (repeat rw [vc_seq]); refine vc_plain _ fun Q hQ => ?_; simp -dsimp (maxSteps := 2000000) only [Fa.F78, VC.Now, VC.vc_skip, VC.vc_ret, VC.vc_exit, VC.vc_block, VC.vc_cond, VC.vc_region, VC.lib, VC.mapN_drewN, VC.mapB_drewN, VC.regQ, VC.loopK, VC.reg, VC.opP, VC.opS, VC.opZ, VC.nomulB, VC.pv, VC.thenF, VC.blkF, VC.retF, VC.resV, VC.oneV, VC.evo, VC.bin, VC.binI, VC.cmpI, VC.arithI, VC.ldv, VC.slv, VC.pickP, VC.holds, VC.chainOf, VC.look, VC.junk, VC.put, VC.eff, VC.callee, VC.pureB, VC.rdK, VC.rdKs, VC.okKs, VC.eqKs, VC.fillL, VC.putL, VC.mixF, VC.setAll, Nat.reduceAdd, Nat.reduceSub, Nat.reduceMul, if_true, if_false, ↓reduceIte, forall_const, implies_true, reduceCtorEq, ne_eq, Nat.reduceBNe, Nat.reduceBEq, IntKind.signed, Nat.reduceEqDiff, Nat.reduceLeDiff, Nat.reduceLT, eq_self, Int.reduceEq, Int.reduceLT, Int.reduceLE, Int.reduceAdd, Int.reduceSub, VC.regC_nil, VC.regC_cons, VC.regCK_eq, VC.callQ, VC.tailQ, VC.goCall, VC.chStep]
  refine ⟨f1, ?_⟩
  change Q _ _ (stW (wa.alloc (.cells z5m.toArray 235)) ⟨wa.heap.size, 0, none⟩ 0 z5m)
  have hH1 := (hH0.st_add (o := oBox wa.heap.size z5m) f3 f2 (fun g hg => by cases hg; exact Nat.le_refl _)).hp
  have hB1 := hB0.trans (f3.mono hH0.base)
  have hH2 := ((hH1.st_add (o := oOwn 280 5 0 nilS []) (Below.refl _ _) (OwnK.nil _ _ _ _) (fun g hg => by cases hg)).hp.pick [2, 1, 0] (by decide) (MObs rb wa.heap.size mind0 nilS) rfl)
  clear f1 f2 f3 hH0 hB0 hH1
  generalize stW (wa.alloc (.cells z5m.toArray 235)) ⟨wa.heap.size, 0, none⟩ 0 z5m = w1 at hH2 hB1 ⊢
  generalize wa.heap.size = mb at hH2 ⊢
  subst hQ
  simp -dsimp (maxSteps := 2000000) only [Fa.F78, VC.Now, VC.vc, VC.lib, VC.mapN_drewN, VC.mapB_drewN, VC.regQ, VC.loopK, VC.reg, VC.opP, VC.opS, VC.opZ, VC.nomulB, VC.pv, VC.thenF, VC.blkF, VC.retF, VC.resV, VC.oneV, VC.evo, VC.bin, VC.binI, VC.cmpI, VC.arithI, VC.ldv, VC.slv, VC.pickP, VC.holds, VC.chainOf, VC.look, VC.junk, VC.put, VC.eff, VC.callee, VC.pureB, VC.rdK, VC.rdKs, VC.okKs, VC.eqKs, VC.fillL, VC.putL, VC.stW, VC.stOK, VC.mixF, VC.setAll, Nat.reduceAdd, Nat.reduceSub, Nat.reduceMul, if_true, if_false, ↓reduceIte, forall_const, implies_true, reduceCtorEq, ne_eq, Nat.reduceBNe, Nat.reduceBEq, IntKind.signed, Nat.reduceEqDiff, Nat.reduceLeDiff, Nat.reduceLT, eq_self, Int.reduceEq, Int.reduceLT, Int.reduceLE, Int.reduceAdd, Int.reduceSub, VC.regC_nil, VC.regC_cons, VC.regCK_eq, VC.callQ, VC.tailQ, VC.goCall, VC.chStep]
  refine loop_slots Fa.mix [10, 20] [12, 13, 14, 16, 21, 22, 23, 24, 25, 26, 27, 28, 29, 30, 31, 32, 33, 34, 35, 36, 37, 38, 39, 40, 41, 42, 43, 44, 45, 46, 47, 48, 49, 50, 51, 52, 53, 54, 55, 56, 57, 58, 59, 60, 61, 62, 63, 64, 65, 66, 67, 68, 69, 70, 71, 72, 73, 74, 75, 76, 77, 78, 79, 80, 81, 82, 83, 84, 85, 86, 87, 88, 89, 90, 91, 92, 93, 94, 95, 96, 97, 98, 99, 100, 101, 102, 103, 104, 105, 106, 107, 108, 109, 110, 111, 112, 113, 114, 115, 116, 117, 118, 119, 120, 121, 122, 123, 124, 125, 126, 127, 128, 129] (fun m vs wr => ∃ (k : Nat) (vc : Value), k + m = l.length ∧ vs = [vc, .int .i64 k] ∧ Below rb w wr ∧ Hp rb (MObs rb mb (mindL n f sender (l.take k)) vc) wr) l.length (by kernel_rfl) rfl
    ⟨0, nilS, by omega, rfl, hB1, hH2⟩ ?_
  clear hB1 hH2
  rintro m vs u wr ⟨k, vc, hkm, rfl, hB, hH⟩
  by_cases hk : k < l.length
  case neg =>
    have e1 : ((k : Int) < (l.length : Int)) = False := eq_false (by omega)
    rw [show l.take k = l from List.take_of_length_le (by omega)] at hH
    generalize mindL n f sender l = M at hH ⊢
    have bm : Box wr mb (minL M) := hH.get 1 rfl
    have b0 := bm.at (i := 0) rfl
    have b1 := bm.at (i := 1) rfl
    have b2 := bm.at (i := 2) rfl
    have b3 := bm.at (i := 3) rfl
    have b4 := bm.at (i := 4) rfl
    have hml := bm.1
    obtain ⟨ok, st2⟩ := hH.allBox 0 rfl (vs := minL M) rfl (by intro v hv; simp at hv; rcases hv with rfl | rfl | rfl | rfl | rfl <;> rfl)
    have rb5 : Box _ rb (minL M) := st2.hp.get 0 rfl
    have t0 := rb5.at (i := 0) rfl
    have t1 := rb5.at (i := 1) rfl
    have t2 := rb5.at (i := 2) rfl
    have t3 := rb5.at (i := 3) rfl
    have t4 := rb5.at (i := 4) rfl
    simp -dsimp (maxSteps := 2000000) only [Fa.F78, e1, rdB_of b0, b0, rdB_of b1, b1, rdB_of b2, b2, rdI_of b3, b3, rdI_of b4, b4, hml, rdB_of t0, t0, rdB_of t1, t1, rdB_of t2, t2, rdI_of t3, t3, rdI_of t4, t4, VC.Now, VC.vc, VC.lib, VC.mapN_drewN, VC.mapB_drewN, VC.regQ, VC.loopK, VC.reg, VC.opP, VC.opS, VC.opZ, VC.nomulB, VC.pv, VC.thenF, VC.blkF, VC.retF, VC.resV, VC.oneV, VC.evo, VC.bin, VC.binI, VC.cmpI, VC.arithI, VC.ldv, VC.slv, VC.pickP, VC.holds, VC.chainOf, VC.look, VC.junk, VC.put, VC.eff, VC.callee, VC.pureB, VC.rdK, VC.rdKs, VC.okKs, VC.eqKs, VC.fillL, VC.putL, VC.mixF, VC.setAll, Nat.reduceAdd, Nat.reduceSub, Nat.reduceMul, if_true, if_false, ↓reduceIte, forall_const, implies_true, reduceCtorEq, ne_eq, Nat.reduceBNe, Nat.reduceBEq, IntKind.signed, Nat.reduceEqDiff, Nat.reduceLeDiff, Nat.reduceLT, eq_self, Int.reduceEq, Int.reduceLT, Int.reduceLE, Int.reduceAdd, Int.reduceSub, VC.regC_nil, VC.regC_cons, VC.regCK_eq, VC.callQ, VC.tailQ, VC.goCall, VC.chStep]
    exact ⟨ok, by rw [hrb]; exact hB.trans (st2.below hH)⟩
  have e1 : ((k : Int) < (l.length : Int)) = True := eq_true (by omega)
  obtain ⟨b, o, rfl, hb, hc⟩ := (hr.below (by rw [hrb]; exact hB)) (by omega)
  have m0 : wr.cell? ⟨b, o + k * 5, none⟩ = some (iV (l.getD k note0).fr) := hc k hk 0 _ rfl
  have m1 := hc k hk 1 _ rfl
  have m2 := hc k hk 2 _ rfl
  have m3 := hc k hk 3 _ rfl
  have m4 := hc k hk 4 _ rfl
  have hxok := hok _ (mem_getD (d := note0) hk)
  have hml := mindL_take (n := n) (f := f) (sender := sender) hk
  have hcl := mindL_cnt (n := n) (f := f) (sender := sender) (l.take k)
  have hcl2 : (l.take k).length ≤ l.length := by rw [List.length_take]; omega
  generalize l.getD k note0 = x at *
  generalize mindL n f sender (l.take k) = M at *
  obtain ⟨f1, f2, f3⟩ := boxMade wr [iV 0, iV 0, iV 0, iV 0, .bool false] (noteL x) 280 rfl (by intro v hv; simp at hv; rcases hv with rfl | rfl | rfl | rfl | rfl <;> rfl)
  obtain ⟨Ac, cc, rfl, _⟩ := id (hH.get 2 rfl : OwnK wr 0 280 5 M.cnt.length vc (M.cnt.flatMap noteL))
  simp -dsimp (maxSteps := 2000000) only [Fa.F78, e1, rdI_of m0, m0, rdI_of m1, m1, rdI_of m2, m2, rdI_of m3, m3, rdB_of m4, m4, hb, Int.toNat_natCast, VC.Now, VC.vc, VC.lib, VC.mapN_drewN, VC.mapB_drewN, VC.regQ, VC.loopK, VC.reg, VC.opP, VC.opS, VC.opZ, VC.nomulB, VC.pv, VC.thenF, VC.blkF, VC.retF, VC.resV, VC.oneV, VC.evo, VC.bin, VC.binI, VC.cmpI, VC.arithI, VC.ldv, VC.slv, VC.pickP, VC.holds, VC.chainOf, VC.look, VC.junk, VC.put, VC.eff, VC.callee, VC.pureB, VC.rdK, VC.rdKs, VC.okKs, VC.eqKs, VC.fillL, VC.putL, VC.mixF, VC.setAll, Nat.reduceAdd, Nat.reduceSub, Nat.reduceMul, if_true, if_false, ↓reduceIte, forall_const, implies_true, reduceCtorEq, ne_eq, Nat.reduceBNe, Nat.reduceBEq, IntKind.signed, Nat.reduceEqDiff, Nat.reduceLeDiff, Nat.reduceLT, eq_self, Int.reduceEq, Int.reduceLT, Int.reduceLE, Int.reduceAdd, Int.reduceSub, VC.regC_nil, VC.regC_cons, VC.regCK_eq, VC.callQ, VC.tailQ, VC.goCall, VC.chStep]
  refine ⟨by omega, f1, ?_⟩
  have hH2 := (hH.st_add (o := oBox wr.heap.size (noteL x)) f3 f2 (fun g hg => by cases hg; exact Nat.le_refl _)).hp
  have hB2 := hB.trans (f3.mono hH.base)
  clear f1 f2 f3 m0 m1 m2 m3 m4 hc hb hB hH
  change WP _ _ _ _ _ _ (stW (wr.alloc (.cells [iV 0, iV 0, iV 0, iV 0, .bool false].toArray 280)) ⟨wr.heap.size, 0, none⟩ 0 (noteL x))
  generalize stW (wr.alloc (.cells [iV 0, iV 0, iV 0, iV 0, .bool false].toArray 280)) ⟨wr.heap.size, 0, none⟩ 0 (noteL x) = w2 at hH2 hB2 ⊢
  generalize wr.heap.size = xb at hH2 ⊢
  refine wp_name fun Q5 hQ5 => ?_
  refine loop_slots Fa.mix [13, 14, 26] [16, 27, 28, 29, 30, 31, 32, 33, 34, 35, 36, 37, 38, 39, 40, 41, 42, 43, 44, 45, 46, 47, 48, 49, 50, 51, 52, 53, 54, 55, 56] (fun m vs wx => ∃ j : Nat, j + m = M.cnt.length ∧ vs = [.bool (!knownK M.cnt x j), .int .i64 (sameK M.cnt x j), .int .i64 j] ∧ Below rb w wx ∧ Hp rb (oBox xb (noteL x) :: MObs rb mb M (.slice Ac M.cnt.length cc)) wx) M.cnt.length (by kernel_rfl) rfl
    ⟨0, by omega, rfl, hB2, hH2⟩ ?_
  clear hB2 hH2
  rintro m2 vs u2 wx ⟨j, hjm, rfl, hB, hH⟩
  have bx : Box wx xb (noteL x) := hH.get 0 rfl
  have x0 := bx.at (i := 0) rfl
  have x1 := bx.at (i := 1) rfl
  have x2 := bx.at (i := 2) rfl
  have x3 := bx.at (i := 3) rfl
  have x4 := bx.at (i := 4) rfl
  have hxl := bx.1
  by_cases hj : j < M.cnt.length
  · have e2 : ((j : Int) < (M.cnt.length : Int)) = True := eq_true (by omega)
    have hO : OwnK wx 0 280 5 M.cnt.length (.slice Ac M.cnt.length cc) (M.cnt.flatMap noteL) := hH.get 3 rfl
    obtain ⟨b2, o2, rfl, hb2, hc2⟩ := RdT.ownL hO noteL_len note0 (by omega)
    have p0 : wx.cell? ⟨b2, o2 + j * 5, none⟩ = some (iV (M.cnt.getD j note0).fr) := hc2 j hj 0 _ rfl
    have p1 := hc2 j hj 1 _ rfl
    have p2 := hc2 j hj 2 _ rfl
    have p3 := hc2 j hj 3 _ rfl
    have p4 := hc2 j hj 4 _ rfl
    have hks := knownK_succ (x := x) hj
    have hss := sameK_succ (x := x) hj
    have hsl := sameK_le M.cnt x j
    generalize M.cnt.getD j note0 = y at *
    obtain ⟨f1, f2, f3⟩ := boxMade wx [iV 0, iV 0, iV 0, iV 0, .bool false] (noteL y) 280 rfl (by intro v hv; simp at hv; rcases hv with rfl | rfl | rfl | rfl | rfl <;> rfl)
    have hH3 := hH.below f3
    have hB3 := hB.trans (f3.mono hH.base)
    have bx3 := bx.below f3
    have y0 := f2.at (i := 0) rfl
    have y2 := f2.at (i := 2) rfl
    have y3 := f2.at (i := 3) rfl
    have hyl := f2.1
    have v0 := bx3.at (i := 0) rfl
    have v2 := bx3.at (i := 2) rfl
    have v3 := bx3.at (i := 3) rfl
    have hvl := bx3.1
    by_cases q1 : y.what = x.what
    · have c1 := eq_true q1
      by_cases q2 : y.fr = x.fr
      · have c2 := eq_true q2
        rw [decide_eq_true (⟨q2, q1⟩ : y.fr = x.fr ∧ y.what = x.what), Bool.or_true] at hks
        by_cases q3 : y.n = x.n
        · have c3 := eq_true q3
          rw [if_pos ⟨q1, q3⟩] at hss
          simp -dsimp (maxSteps := 2000000) only [Fa.F78, e2, rdI_of p0, p0, rdI_of p1, p1, rdI_of p2, p2, rdI_of p3, p3, rdB_of p4, p4, hb2, rdI_of y0, y0, rdI_of y2, y2, rdI_of y3, y3, hyl, rdI_of v0, v0, rdI_of v2, v2, rdI_of v3, v3, hvl, c1, c2, c3, Int.toNat_natCast, undef, tu, uf, ul, ur, VC.Now, VC.vc, VC.lib, VC.mapN_drewN, VC.mapB_drewN, VC.regQ, VC.loopK, VC.reg, VC.opP, VC.opS, VC.opZ, VC.nomulB, VC.pv, VC.thenF, VC.blkF, VC.retF, VC.resV, VC.oneV, VC.evo, VC.bin, VC.binI, VC.cmpI, VC.arithI, VC.ldv, VC.slv, VC.pickP, VC.holds, VC.chainOf, VC.look, VC.junk, VC.put, VC.eff, VC.callee, VC.pureB, VC.rdK, VC.rdKs, VC.okKs, VC.eqKs, VC.fillL, VC.putL, VC.mixF, VC.setAll, Nat.reduceAdd, Nat.reduceSub, Nat.reduceMul, if_true, if_false, ↓reduceIte, forall_const, implies_true, reduceCtorEq, ne_eq, Nat.reduceBNe, Nat.reduceBEq, IntKind.signed, Nat.reduceEqDiff, Nat.reduceLeDiff, Nat.reduceLT, eq_self, Int.reduceEq, Int.reduceLT, Int.reduceLE, Int.reduceAdd, Int.reduceSub, VC.regC_nil, VC.regC_cons, VC.regCK_eq, VC.callQ, VC.tailQ, VC.goCall, VC.chStep]
          refine ⟨by omega, f1, ?_⟩
          intros
          exact ⟨fits_i64 (by omega) (by omega), fits_i64_nat (by omega), SAME.intro (by kernel_rfl), m2 - 1, by omega, j + 1, by omega, by rw [hks, hss]; rfl, hB3, hH3⟩
        · have c3 := eq_false q3
          rw [if_neg (fun hh => q3 hh.2), Nat.add_zero] at hss
          simp -dsimp (maxSteps := 2000000) only [Fa.F78, e2, rdI_of p0, p0, rdI_of p1, p1, rdI_of p2, p2, rdI_of p3, p3, rdB_of p4, p4, hb2, rdI_of y0, y0, rdI_of y2, y2, rdI_of y3, y3, hyl, rdI_of v0, v0, rdI_of v2, v2, rdI_of v3, v3, hvl, c1, c2, c3, Int.toNat_natCast, undef, tu, uf, ul, ur, VC.Now, VC.vc, VC.lib, VC.mapN_drewN, VC.mapB_drewN, VC.regQ, VC.loopK, VC.reg, VC.opP, VC.opS, VC.opZ, VC.nomulB, VC.pv, VC.thenF, VC.blkF, VC.retF, VC.resV, VC.oneV, VC.evo, VC.bin, VC.binI, VC.cmpI, VC.arithI, VC.ldv, VC.slv, VC.pickP, VC.holds, VC.chainOf, VC.look, VC.junk, VC.put, VC.eff, VC.callee, VC.pureB, VC.rdK, VC.rdKs, VC.okKs, VC.eqKs, VC.fillL, VC.putL, VC.mixF, VC.setAll, Nat.reduceAdd, Nat.reduceSub, Nat.reduceMul, if_true, if_false, ↓reduceIte, forall_const, implies_true, reduceCtorEq, ne_eq, Nat.reduceBNe, Nat.reduceBEq, IntKind.signed, Nat.reduceEqDiff, Nat.reduceLeDiff, Nat.reduceLT, eq_self, Int.reduceEq, Int.reduceLT, Int.reduceLE, Int.reduceAdd, Int.reduceSub, VC.regC_nil, VC.regC_cons, VC.regCK_eq, VC.callQ, VC.tailQ, VC.goCall, VC.chStep]
          refine ⟨by omega, f1, ?_⟩
          intros
          exact ⟨fits_i64_nat (by omega), SAME.intro (by kernel_rfl), m2 - 1, by omega, j + 1, by omega, by rw [hks, hss]; rfl, hB3, hH3⟩
      · have c2 := eq_false q2
        rw [decide_eq_false (fun hh : y.fr = x.fr ∧ y.what = x.what => q2 hh.1), Bool.or_false] at hks
        by_cases q3 : y.n = x.n
        · have c3 := eq_true q3
          rw [if_pos ⟨q1, q3⟩] at hss
          simp -dsimp (maxSteps := 2000000) only [Fa.F78, e2, rdI_of p0, p0, rdI_of p1, p1, rdI_of p2, p2, rdI_of p3, p3, rdB_of p4, p4, hb2, rdI_of y0, y0, rdI_of y2, y2, rdI_of y3, y3, hyl, rdI_of v0, v0, rdI_of v2, v2, rdI_of v3, v3, hvl, c1, c2, c3, Int.toNat_natCast, undef, tu, uf, ul, ur, VC.Now, VC.vc, VC.lib, VC.mapN_drewN, VC.mapB_drewN, VC.regQ, VC.loopK, VC.reg, VC.opP, VC.opS, VC.opZ, VC.nomulB, VC.pv, VC.thenF, VC.blkF, VC.retF, VC.resV, VC.oneV, VC.evo, VC.bin, VC.binI, VC.cmpI, VC.arithI, VC.ldv, VC.slv, VC.pickP, VC.holds, VC.chainOf, VC.look, VC.junk, VC.put, VC.eff, VC.callee, VC.pureB, VC.rdK, VC.rdKs, VC.okKs, VC.eqKs, VC.fillL, VC.putL, VC.mixF, VC.setAll, Nat.reduceAdd, Nat.reduceSub, Nat.reduceMul, if_true, if_false, ↓reduceIte, forall_const, implies_true, reduceCtorEq, ne_eq, Nat.reduceBNe, Nat.reduceBEq, IntKind.signed, Nat.reduceEqDiff, Nat.reduceLeDiff, Nat.reduceLT, eq_self, Int.reduceEq, Int.reduceLT, Int.reduceLE, Int.reduceAdd, Int.reduceSub, VC.regC_nil, VC.regC_cons, VC.regCK_eq, VC.callQ, VC.tailQ, VC.goCall, VC.chStep]
          refine ⟨by omega, f1, ?_⟩
          intros
          exact ⟨fits_i64 (by omega) (by omega), fits_i64_nat (by omega), SAME.intro (by kernel_rfl), m2 - 1, by omega, j + 1, by omega, by rw [hks, hss]; rfl, hB3, hH3⟩
        · have c3 := eq_false q3
          rw [if_neg (fun hh => q3 hh.2), Nat.add_zero] at hss
          simp -dsimp (maxSteps := 2000000) only [Fa.F78, e2, rdI_of p0, p0, rdI_of p1, p1, rdI_of p2, p2, rdI_of p3, p3, rdB_of p4, p4, hb2, rdI_of y0, y0, rdI_of y2, y2, rdI_of y3, y3, hyl, rdI_of v0, v0, rdI_of v2, v2, rdI_of v3, v3, hvl, c1, c2, c3, Int.toNat_natCast, undef, tu, uf, ul, ur, VC.Now, VC.vc, VC.lib, VC.mapN_drewN, VC.mapB_drewN, VC.regQ, VC.loopK, VC.reg, VC.opP, VC.opS, VC.opZ, VC.nomulB, VC.pv, VC.thenF, VC.blkF, VC.retF, VC.resV, VC.oneV, VC.evo, VC.bin, VC.binI, VC.cmpI, VC.arithI, VC.ldv, VC.slv, VC.pickP, VC.holds, VC.chainOf, VC.look, VC.junk, VC.put, VC.eff, VC.callee, VC.pureB, VC.rdK, VC.rdKs, VC.okKs, VC.eqKs, VC.fillL, VC.putL, VC.mixF, VC.setAll, Nat.reduceAdd, Nat.reduceSub, Nat.reduceMul, if_true, if_false, ↓reduceIte, forall_const, implies_true, reduceCtorEq, ne_eq, Nat.reduceBNe, Nat.reduceBEq, IntKind.signed, Nat.reduceEqDiff, Nat.reduceLeDiff, Nat.reduceLT, eq_self, Int.reduceEq, Int.reduceLT, Int.reduceLE, Int.reduceAdd, Int.reduceSub, VC.regC_nil, VC.regC_cons, VC.regCK_eq, VC.callQ, VC.tailQ, VC.goCall, VC.chStep]
          refine ⟨by omega, f1, ?_⟩
          intros
          exact ⟨fits_i64_nat (by omega), SAME.intro (by kernel_rfl), m2 - 1, by omega, j + 1, by omega, by rw [hks, hss]; rfl, hB3, hH3⟩
    · have c1 := eq_false q1
      rw [decide_eq_false (fun hh : y.fr = x.fr ∧ y.what = x.what => q1 hh.2), Bool.or_false] at hks
      rw [if_neg (fun hh => q1 hh.1), Nat.add_zero] at hss
      by_cases q2 : y.fr = x.fr
      · have c2 := eq_true q2
        have c3 : True := trivial
        simp -dsimp (maxSteps := 2000000) only [Fa.F78, e2, rdI_of p0, p0, rdI_of p1, p1, rdI_of p2, p2, rdI_of p3, p3, rdB_of p4, p4, hb2, rdI_of y0, y0, rdI_of y2, y2, rdI_of y3, y3, hyl, rdI_of v0, v0, rdI_of v2, v2, rdI_of v3, v3, hvl, c1, c2, c3, Int.toNat_natCast, undef, tu, uf, ul, ur, VC.Now, VC.vc, VC.lib, VC.mapN_drewN, VC.mapB_drewN, VC.regQ, VC.loopK, VC.reg, VC.opP, VC.opS, VC.opZ, VC.nomulB, VC.pv, VC.thenF, VC.blkF, VC.retF, VC.resV, VC.oneV, VC.evo, VC.bin, VC.binI, VC.cmpI, VC.arithI, VC.ldv, VC.slv, VC.pickP, VC.holds, VC.chainOf, VC.look, VC.junk, VC.put, VC.eff, VC.callee, VC.pureB, VC.rdK, VC.rdKs, VC.okKs, VC.eqKs, VC.fillL, VC.putL, VC.mixF, VC.setAll, Nat.reduceAdd, Nat.reduceSub, Nat.reduceMul, if_true, if_false, ↓reduceIte, forall_const, implies_true, reduceCtorEq, ne_eq, Nat.reduceBNe, Nat.reduceBEq, IntKind.signed, Nat.reduceEqDiff, Nat.reduceLeDiff, Nat.reduceLT, eq_self, Int.reduceEq, Int.reduceLT, Int.reduceLE, Int.reduceAdd, Int.reduceSub, VC.regC_nil, VC.regC_cons, VC.regCK_eq, VC.callQ, VC.tailQ, VC.goCall, VC.chStep]
        refine ⟨by omega, f1, ?_⟩
        intros
        exact ⟨fits_i64_nat (by omega), SAME.intro (by kernel_rfl), m2 - 1, by omega, j + 1, by omega, by rw [hks, hss]; rfl, hB3, hH3⟩
      · have c2 := eq_false q2
        have c3 : True := trivial
        simp -dsimp (maxSteps := 2000000) only [Fa.F78, e2, rdI_of p0, p0, rdI_of p1, p1, rdI_of p2, p2, rdI_of p3, p3, rdB_of p4, p4, hb2, rdI_of y0, y0, rdI_of y2, y2, rdI_of y3, y3, hyl, rdI_of v0, v0, rdI_of v2, v2, rdI_of v3, v3, hvl, c1, c2, c3, Int.toNat_natCast, undef, tu, uf, ul, ur, VC.Now, VC.vc, VC.lib, VC.mapN_drewN, VC.mapB_drewN, VC.regQ, VC.loopK, VC.reg, VC.opP, VC.opS, VC.opZ, VC.nomulB, VC.pv, VC.thenF, VC.blkF, VC.retF, VC.resV, VC.oneV, VC.evo, VC.bin, VC.binI, VC.cmpI, VC.arithI, VC.ldv, VC.slv, VC.pickP, VC.holds, VC.chainOf, VC.look, VC.junk, VC.put, VC.eff, VC.callee, VC.pureB, VC.rdK, VC.rdKs, VC.okKs, VC.eqKs, VC.fillL, VC.putL, VC.mixF, VC.setAll, Nat.reduceAdd, Nat.reduceSub, Nat.reduceMul, if_true, if_false, ↓reduceIte, forall_const, implies_true, reduceCtorEq, ne_eq, Nat.reduceBNe, Nat.reduceBEq, IntKind.signed, Nat.reduceEqDiff, Nat.reduceLeDiff, Nat.reduceLT, eq_self, Int.reduceEq, Int.reduceLT, Int.reduceLE, Int.reduceAdd, Int.reduceSub, VC.regC_nil, VC.regC_cons, VC.regCK_eq, VC.callQ, VC.tailQ, VC.goCall, VC.chStep]
        refine ⟨by omega, f1, ?_⟩
        intros
        exact ⟨fits_i64_nat (by omega), SAME.intro (by kernel_rfl), m2 - 1, by omega, j + 1, by omega, by rw [hks, hss]; rfl, hB3, hH3⟩
  obtain rfl : j = M.cnt.length := by omega
  have e2 : ((M.cnt.length : Int) < (M.cnt.length : Int)) = False := eq_false (by omega)
  rw [knownK_all, sameK_all]
  have hsl : sameN M.cnt x ≤ M.cnt.length + 1 := by rw [← sameK_all]; exact sameK_le _ _ _
  cases hkn : knownB M.cnt x with
  | true =>
    rw [mindF_known hkn] at hml
    subst hQ5
    simp -dsimp (maxSteps := 2000000) only [Fa.F78, e2, VC.Now, VC.vc, VC.lib, VC.mapN_drewN, VC.mapB_drewN, VC.regQ, VC.loopK, VC.reg, VC.opP, VC.opS, VC.opZ, VC.nomulB, VC.pv, VC.thenF, VC.blkF, VC.retF, VC.resV, VC.oneV, VC.evo, VC.bin, VC.binI, VC.cmpI, VC.arithI, VC.ldv, VC.slv, VC.pickP, VC.holds, VC.chainOf, VC.look, VC.junk, VC.put, VC.eff, VC.callee, VC.pureB, VC.rdK, VC.rdKs, VC.okKs, VC.eqKs, VC.fillL, VC.putL, VC.stW, VC.stOK, VC.mixF, VC.setAll, Nat.reduceAdd, Nat.reduceSub, Nat.reduceMul, if_true, if_false, ↓reduceIte, forall_const, implies_true, reduceCtorEq, ne_eq, Nat.reduceBNe, Nat.reduceBEq, IntKind.signed, Nat.reduceEqDiff, Nat.reduceLeDiff, Nat.reduceLT, eq_self, Int.reduceEq, Int.reduceLT, Int.reduceLE, Int.reduceAdd, Int.reduceSub, VC.regC_nil, VC.regC_cons, VC.regCK_eq, VC.callQ, VC.tailQ, VC.goCall, VC.chStep]
    exact ⟨fits_i64_nat (by omega), SAME.intro (by kernel_rfl), m - 1, by omega, k + 1, _, by omega, rfl, hB, by rw [hml]; exact hH.sub (List.sublist_cons_self ..)⟩
  | false =>
  subst hQ5
  simp -dsimp (maxSteps := 2000000) only [Fa.F78, e2, rdI_of x0, x0, rdI_of x1, x1, rdI_of x2, x2, rdI_of x3, x3, rdB_of x4, x4, hxl, VC.Now, VC.vc, VC.lib, VC.mapN_drewN, VC.mapB_drewN, VC.regQ, VC.loopK, VC.reg, VC.opP, VC.opS, VC.opZ, VC.nomulB, VC.pv, VC.thenF, VC.blkF, VC.retF, VC.resV, VC.oneV, VC.evo, VC.bin, VC.binI, VC.cmpI, VC.arithI, VC.ldv, VC.slv, VC.pickP, VC.holds, VC.chainOf, VC.look, VC.junk, VC.put, VC.eff, VC.callee, VC.pureB, VC.rdK, VC.rdKs, VC.okKs, VC.eqKs, VC.fillL, VC.putL, VC.stW, VC.stOK, VC.mixF, VC.setAll, Nat.reduceAdd, Nat.reduceSub, Nat.reduceMul, if_true, if_false, ↓reduceIte, forall_const, implies_true, reduceCtorEq, ne_eq, Nat.reduceBNe, Nat.reduceBEq, IntKind.signed, Nat.reduceEqDiff, Nat.reduceLeDiff, Nat.reduceLT, eq_self, Int.reduceEq, Int.reduceLT, Int.reduceLE, Int.reduceAdd, Int.reduceSub, VC.regC_nil, VC.regC_cons, VC.regCK_eq, VC.callQ, VC.tailQ, VC.goCall, VC.chStep]
  have hO : OwnK wx 0 280 5 M.cnt.length (.slice Ac M.cnt.length cc) (M.cnt.flatMap noteL) := hH.get 3 rfl
  refine OPW_appK (us := noteL x) rfl Fa.apI231 rfl rfl rfl (by simp [Value.oneCell']) hO (Nat.zero_le _) (by omega) (by decide) fun v7 w7 ho7 hg7 hs7 => ?_
  have e7 : (M.cnt ++ [x]).flatMap noteL = M.cnt.flatMap noteL ++ noteL x := by rw [List.flatMap_append]; simp
  have e8 : (M.cnt ++ [x]).length = M.cnt.length + 1 := by rw [List.length_append]; rfl
  have ho8 : OwnK w7 0 280 5 (M.cnt ++ [x]).length v7 ((M.cnt ++ [x]).flatMap noteL) := by rw [e7, e8]; exact ho7
  have st7 := hH.grown 3 rfl ho8 hg7 hs7
  have hH7 : Hp rb [oBox xb (noteL x), oBox rb z5m, oBox mb (minL M), oOwn 280 5 (M.cnt ++ [x]).length v7 ((M.cnt ++ [x]).flatMap noteL)] w7 := st7.hp
  have hB7 := hB.trans (st7.below hH)
  clear hO ho7 ho8 hg7 hs7 st7 hH hB e7 e8 x0 x1 x2 x3 x4 hxl bx
  have hmf : mindF n f sender M x = { cnt := M.cnt ++ [x], echo := M.echo || decide (echoP sender x), ready := M.ready || decide (readyP n f M.cnt x), has := M.has || decide (hasP f M.cnt x), word := if (echoP sender x ∧ M.echo = false) ∨ (readyP n f M.cnt x ∧ M.ready = false) then x.n else M.word, value := if hasP f M.cnt x ∧ M.has = false then x.n else M.value } := by
    unfold mindF
    rw [if_neg (by rw [hkn]; simp)]
  have hmc : (mindF n f sender M x).cnt = M.cnt ++ [x] := by rw [hmf]
  have bx : Box w7 xb (noteL x) := hH7.get 0 rfl
  have x0 := bx.at (i := 0) rfl
  have x2 := bx.at (i := 2) rfl
  have x3 := bx.at (i := 3) rfl
  have hxl := bx.1
  have bm : Box w7 mb (minL M) := hH7.get 2 rfl
  have q0 := bm.at (i := 0) rfl
  have q1 := bm.at (i := 1) rfl
  have q2 := bm.at (i := 2) rfl
  have hml2 := bm.1
  have k1 : IntKind.i64.wrap ((n : Int) + (f : Int)) = ((n + f : Nat) : Int) := wrap64d (by simp) (by omega)
  have k2 : IntKind.i64.wrap (2 * (sameN M.cnt x : Int)) = ((2 * sameN M.cnt x : Nat) : Int) := wrap64d (by simp) (by omega)
  have k4 : IntKind.i64.wrap (2 * (f : Int)) = ((2 * f : Nat) : Int) := wrap64d (by simp) (by omega)
  rw [VC.Now, VC.seqK_eq]
  simp -dsimp (maxSteps := 2000000) only [Fa.F78, VC.Now, VC.vc_skip, VC.vc_ret, VC.vc_exit, VC.vc_block, VC.vc_cond, VC.vc_region, VC.lib, VC.mapN_drewN, VC.mapB_drewN, VC.regQ, VC.loopK, VC.reg, VC.opP, VC.opS, VC.opZ, VC.nomulB, VC.pv, VC.thenF, VC.blkF, VC.retF, VC.resV, VC.oneV, VC.evo, VC.bin, VC.binI, VC.cmpI, VC.arithI, VC.ldv, VC.slv, VC.pickP, VC.holds, VC.chainOf, VC.look, VC.junk, VC.put, VC.eff, VC.callee, VC.pureB, VC.rdK, VC.rdKs, VC.okKs, VC.eqKs, VC.fillL, VC.putL, VC.stW, VC.stOK, VC.mixF, VC.setAll, Nat.reduceAdd, Nat.reduceSub, Nat.reduceMul, if_true, if_false, ↓reduceIte, forall_const, implies_true, reduceCtorEq, ne_eq, Nat.reduceBNe, Nat.reduceBEq, IntKind.signed, Nat.reduceEqDiff, Nat.reduceLeDiff, Nat.reduceLT, eq_self, Int.reduceEq, Int.reduceLT, Int.reduceLE, Int.reduceAdd, Int.reduceSub, VC.regC_nil, VC.regC_cons, VC.regCK_eq, VC.callQ, VC.tailQ, VC.goCall, VC.chStep]
  (repeat rw [vc_seq])
  refine vc_plain _ fun Q hQ => ?_
  simp -dsimp (maxSteps := 2000000) only [Fa.F78, rdI_of x0, x0, rdI_of x2, x2, hxl, rdB_of q0, q0, hml2, VC.Now, VC.vc_skip, VC.vc_ret, VC.vc_exit, VC.vc_block, VC.vc_cond, VC.vc_region, VC.lib, VC.mapN_drewN, VC.mapB_drewN, VC.regQ, VC.loopK, VC.reg, VC.opP, VC.opS, VC.opZ, VC.nomulB, VC.pv, VC.thenF, VC.blkF, VC.retF, VC.resV, VC.oneV, VC.evo, VC.bin, VC.binI, VC.cmpI, VC.arithI, VC.ldv, VC.slv, VC.pickP, VC.holds, VC.chainOf, VC.look, VC.junk, VC.put, VC.eff, VC.callee, VC.pureB, VC.rdK, VC.rdKs, VC.okKs, VC.eqKs, VC.fillL, VC.putL, VC.stW, VC.stOK, VC.mixF, VC.setAll, Nat.reduceAdd, Nat.reduceSub, Nat.reduceMul, if_true, if_false, ↓reduceIte, forall_const, implies_true, reduceCtorEq, ne_eq, Nat.reduceBNe, Nat.reduceBEq, IntKind.signed, Nat.reduceEqDiff, Nat.reduceLeDiff, Nat.reduceLT, eq_self, Int.reduceEq, Int.reduceLT, Int.reduceLE, Int.reduceAdd, Int.reduceSub, VC.regC_nil, VC.regC_cons, VC.regCK_eq, VC.callQ, VC.tailQ, VC.goCall, VC.chStep]
  intro u4
  subst hQ
  refine (?_ : VC.vc _ _ _ (.seq _ _) _ _ _)
  rw [vc_seq]
  refine vc_plain _ fun Q hQ => ?_
  have hJ1 : okJ ([14] ++ [63, 64, 65, 66, 67, 68, 69, 70, 71, 72, 73, 74, 75, 76, 77, 78, 79, 80]) [14] [63, 64, 65, 66, 67, 68, 69, 70, 71, 72, 73, 74, 75, 76, 77, 78, 79, 80] = true := by kernel_rfl
  obtain ⟨MA, hMA⟩ : ∃ MA : MindS, MA = { M with cnt := M.cnt ++ [x], echo := M.echo || decide (echoP sender x), word := if echoP sender x ∧ M.echo = false then x.n else M.word } := ⟨_, rfl⟩
  refine vc_cut [14] [63, 64, 65, 66, 67, 68, 69, 70, 71, 72, 73, 74, 75, 76, 77, 78, 79, 80] (fun vs w' => vs = [.int .i64 (sameN M.cnt x)] ∧ Below rb w w' ∧ Hp rb [oBox xb (noteL x), oBox rb z5m, oBox mb (minL MA), oOwn 280 5 (M.cnt ++ [x]).length v7 ((M.cnt ++ [x]).flatMap noteL)] w') (fun vs u5 w8 hJ => ?rest) (fun hcut => ?main)
  case main =>
    have bo9 : Box w7 mb (minL M) := hH7.get 2 rfl
    have ra9 : (w7.cell? ⟨mb, 0, none⟩).isSome = true := Option.isSome_iff_exists.2 ⟨_, bo9.at (i := 0) rfl⟩
    have rb9 := bo9.soft (i := 0) (by show 0 < 5; omega)
    have ml9 := bo9.1
    have st9 := hH7.setBox 2 rfl 0 (.bool true)
    have bx9 : Box _ xb (noteL x) := st9.hp.get 0 rfl
    have u9 := bx9.at (i := 3) rfl
    have ul9 := bx9.1
    have bm9 : Box _ mb _ := st9.hp.get 2 rfl
    have rc9 := Option.isSome_iff_exists.2 ⟨_, bm9.at (i := 3) rfl⟩
    have rd9 := bm9.soft (i := 3) (by show 3 < 5; omega)
    have nl9 := bm9.1
    have sx9 := st9.hp.setBox 2 rfl 3 (iV x.n)
    have hB9 := hB7.trans ((st9.trans sx9).below hH7)
    have hH9 := sx9.hp
    have bw9 : Box _ xb (noteL x) := hH9.get 0 rfl
    have z9 := bw9.at (i := 2) rfl
    have y9 := bw9.at (i := 3) rfl
    have zl9 := bw9.1
    simp -dsimp (maxSteps := 2000000) only [Fa.F78, rdI_of x3, x3, hxl, ra9, rb9, ml9, rdI_of u9, u9, ul9, rc9, rd9, nl9, VC.Now, VC.vc, VC.lib, VC.mapN_drewN, VC.mapB_drewN, VC.regQ, VC.loopK, VC.reg, VC.opP, VC.opS, VC.opZ, VC.nomulB, VC.pv, VC.thenF, VC.blkF, VC.retF, VC.resV, VC.oneV, VC.evo, VC.bin, VC.binI, VC.cmpI, VC.arithI, VC.ldv, VC.slv, VC.pickP, VC.holds, VC.chainOf, VC.look, VC.junk, VC.put, VC.eff, VC.callee, VC.pureB, VC.rdK, VC.rdKs, VC.okKs, VC.eqKs, VC.fillL, VC.putL, VC.stW, VC.stOK, VC.mixF, VC.setAll, Nat.reduceAdd, Nat.reduceSub, Nat.reduceMul, if_true, if_false, ↓reduceIte, forall_const, implies_true, reduceCtorEq, ne_eq, Nat.reduceBNe, Nat.reduceBEq, IntKind.signed, Nat.reduceEqDiff, Nat.reduceLeDiff, Nat.reduceLT, eq_self, Int.reduceEq, Int.reduceLT, Int.reduceLE, Int.reduceAdd, Int.reduceSub, VC.regC_nil, VC.regC_cons, VC.regCK_eq, VC.callQ, VC.tailQ, VC.goCall, VC.chStep]
    refine ⟨fun hc => hcut _ _ (SAME.walk hJ1 (by kernel_rfl)) ⟨rfl, hB9, ?_⟩, fun hc => hcut _ _ (SAME.walk hJ1 (by kernel_rfl)) ⟨rfl, hB7, ?_⟩⟩
    · have hep : echoP sender x := hc.1
      have e9 : minL MA = [.bool true, .bool M.ready, .bool M.has, iV x.n, iV M.value] := by rw [hMA]; simp [hep, hc.2]
      rw [e9]; exact hH9
    · have e9 : minL MA = minL M := by
        rw [hMA]
        by_cases hep : echoP sender x
        · have : M.echo = true := by cases h : M.echo; exact absurd ⟨hep, h⟩ hc; rfl
          simp [hep, this]
        · simp [hep]
      rw [e9]; exact hH7
  clear x0 x2 x3 hxl bx bm q0 q1 q2 hml2 hH7 hB7
  obtain ⟨rfl, hB7, hH7⟩ := hJ
  have bx : Box w8 xb (noteL x) := hH7.get 0 rfl
  have x2 := bx.at (i := 2) rfl
  have x3 := bx.at (i := 3) rfl
  have hxl := bx.1
  have bm : Box w8 mb (minL MA) := hH7.get 2 rfl
  have q1 := bm.at (i := 1) rfl
  have hml2 := bm.1
  subst hQ
  refine (?_ : VC.vc _ _ _ (.seq _ _) _ _ _)
  (repeat rw [vc_seq])
  refine vc_plain _ fun Q hQ => ?_
  simp -dsimp (maxSteps := 2000000) only [Fa.F78, rdI_of x2, x2, hxl, rdB_of q1, q1, hml2, k1, k2, VC.Now, VC.vc_skip, VC.vc_ret, VC.vc_exit, VC.vc_block, VC.vc_cond, VC.vc_region, VC.lib, VC.mapN_drewN, VC.mapB_drewN, VC.regQ, VC.loopK, VC.reg, VC.opP, VC.opS, VC.opZ, VC.nomulB, VC.pv, VC.thenF, VC.blkF, VC.retF, VC.resV, VC.oneV, VC.evo, VC.bin, VC.binI, VC.cmpI, VC.arithI, VC.ldv, VC.slv, VC.pickP, VC.holds, VC.chainOf, VC.look, VC.junk, VC.put, VC.eff, VC.callee, VC.pureB, VC.rdK, VC.rdKs, VC.okKs, VC.eqKs, VC.fillL, VC.putL, VC.stW, VC.stOK, VC.mixF, VC.setAll, Nat.reduceAdd, Nat.reduceSub, Nat.reduceMul, if_true, if_false, ↓reduceIte, forall_const, implies_true, reduceCtorEq, ne_eq, Nat.reduceBNe, Nat.reduceBEq, IntKind.signed, Nat.reduceEqDiff, Nat.reduceLeDiff, Nat.reduceLT, eq_self, Int.reduceEq, Int.reduceLT, Int.reduceLE, Int.reduceAdd, Int.reduceSub, VC.regC_nil, VC.regC_cons, VC.regCK_eq, VC.callQ, VC.tailQ, VC.goCall, VC.chStep]
  intro u6
  subst hQ
  refine (?_ : VC.vc _ _ _ (.seq _ _) _ _ _)
  rw [vc_seq]
  refine vc_plain _ fun Q hQ => ?_
  have hJ2 : okJ ([14] ++ [81, 82, 83, 84, 85, 86, 87, 88, 89, 90, 91, 92, 93, 94, 95, 96, 97, 98, 99, 100, 101, 102, 103, 104, 105, 106, 107, 108, 109, 110]) [14] [81, 82, 83, 84, 85, 86, 87, 88, 89, 90, 91, 92, 93, 94, 95, 96, 97, 98, 99, 100, 101, 102, 103, 104, 105, 106, 107, 108, 109, 110] = true := by kernel_rfl
  obtain ⟨MB, hMB⟩ : ∃ MB : MindS, MB = { MA with ready := MA.ready || decide (readyP n f M.cnt x), word := if readyP n f M.cnt x ∧ MA.ready = false then x.n else MA.word } := ⟨_, rfl⟩
  refine vc_cut [14] [81, 82, 83, 84, 85, 86, 87, 88, 89, 90, 91, 92, 93, 94, 95, 96, 97, 98, 99, 100, 101, 102, 103, 104, 105, 106, 107, 108, 109, 110] (fun vs w' => vs = [.int .i64 (sameN M.cnt x)] ∧ Below rb w w' ∧ Hp rb [oBox xb (noteL x), oBox rb z5m, oBox mb (minL MB), oOwn 280 5 (M.cnt ++ [x]).length v7 ((M.cnt ++ [x]).flatMap noteL)] w') (fun vs u7 w9 hJ => ?rest2) (fun hcut => ?main2)
  case main2 =>
    have bo9 : Box w8 mb (minL MA) := hH7.get 2 rfl
    have ra9 : (w8.cell? ⟨mb, 1, none⟩).isSome = true := Option.isSome_iff_exists.2 ⟨_, bo9.at (i := 1) rfl⟩
    have rb9 := bo9.soft (i := 1) (by show 1 < 5; omega)
    have ml9 := bo9.1
    have st9 := hH7.setBox 2 rfl 1 (.bool true)
    have bx9 : Box _ xb (noteL x) := st9.hp.get 0 rfl
    have u9 := bx9.at (i := 3) rfl
    have ul9 := bx9.1
    have bm9 : Box _ mb _ := st9.hp.get 2 rfl
    have rc9 := Option.isSome_iff_exists.2 ⟨_, bm9.at (i := 3) rfl⟩
    have rd9 := bm9.soft (i := 3) (by show 3 < 5; omega)
    have nl9 := bm9.1
    have sx9 := st9.hp.setBox 2 rfl 3 (iV x.n)
    have hB9 := hB7.trans ((st9.trans sx9).below hH7)
    have hH9 := sx9.hp
    have bw9 : Box _ xb (noteL x) := hH9.get 0 rfl
    have z9 := bw9.at (i := 2) rfl
    have y9 := bw9.at (i := 3) rfl
    have zl9 := bw9.1
    simp -dsimp (maxSteps := 2000000) only [Fa.F78, rdI_of x3, x3, hxl, ra9, rb9, ml9, rdI_of u9, u9, ul9, rc9, rd9, nl9, VC.Now, VC.vc, VC.lib, VC.mapN_drewN, VC.mapB_drewN, VC.regQ, VC.loopK, VC.reg, VC.opP, VC.opS, VC.opZ, VC.nomulB, VC.pv, VC.thenF, VC.blkF, VC.retF, VC.resV, VC.oneV, VC.evo, VC.bin, VC.binI, VC.cmpI, VC.arithI, VC.ldv, VC.slv, VC.pickP, VC.holds, VC.chainOf, VC.look, VC.junk, VC.put, VC.eff, VC.callee, VC.pureB, VC.rdK, VC.rdKs, VC.okKs, VC.eqKs, VC.fillL, VC.putL, VC.stW, VC.stOK, VC.mixF, VC.setAll, Nat.reduceAdd, Nat.reduceSub, Nat.reduceMul, if_true, if_false, ↓reduceIte, forall_const, implies_true, reduceCtorEq, ne_eq, Nat.reduceBNe, Nat.reduceBEq, IntKind.signed, Nat.reduceEqDiff, Nat.reduceLeDiff, Nat.reduceLT, eq_self, Int.reduceEq, Int.reduceLT, Int.reduceLE, Int.reduceAdd, Int.reduceSub, VC.regC_nil, VC.regC_cons, VC.regCK_eq, VC.callQ, VC.tailQ, VC.goCall, VC.chStep]
    refine ⟨fun hc => hcut _ _ (SAME.walk hJ2 (by kernel_rfl)) ⟨rfl, hB9, ?_⟩, fun hc => hcut _ _ (SAME.walk hJ2 (by kernel_rfl)) ⟨rfl, hB7, ?_⟩⟩
    · have hep : readyP n f M.cnt x := by
        rcases hc.1 with ⟨h8, h9⟩ | ⟨h8, h9⟩
        · exact Or.inl ⟨h8, by omega⟩
        · exact Or.inr ⟨h8, by omega⟩
      have e9 : minL MB = [.bool MA.echo, .bool true, .bool MA.has, iV x.n, iV MA.value] := by rw [hMB]; simp only [decide_eq_true hep, Bool.or_true, if_pos (show readyP n f M.cnt x ∧ MA.ready = false from ⟨hep, hc.2⟩)]
      rw [e9]; exact hH9
    · have e9 : minL MB = minL MA := by
        rw [hMB]
        by_cases hep : readyP n f M.cnt x
        · have : MA.ready = true := by
            cases h : MA.ready
            · exact absurd ⟨by rcases hep with ⟨h8, h9⟩ | ⟨h8, h9⟩
                               · exact Or.inl ⟨h8, by omega⟩
                               · exact Or.inr ⟨h8, by omega⟩, h⟩ hc
            · rfl
          show [Value.bool MA.echo, Value.bool (MA.ready || decide (readyP n f M.cnt x)), Value.bool MA.has, iV (if readyP n f M.cnt x ∧ MA.ready = false then x.n else MA.word), iV MA.value] = minL MA
          rw [if_neg (show ¬ (readyP n f M.cnt x ∧ MA.ready = false) from fun hh => by rw [this] at hh; cases hh.2), show (MA.ready || decide (readyP n f M.cnt x)) = MA.ready from by rw [this]; rfl]
        · simp only [decide_eq_false hep, Bool.or_false, if_neg (show ¬ (readyP n f M.cnt x ∧ MA.ready = false) from fun hh => hep hh.1)]
      rw [e9]; exact hH7
  clear x2 x3 hxl bx bm q1 hml2 hH7 hB7
  obtain ⟨rfl, hB7, hH7⟩ := hJ
  have bx : Box w9 xb (noteL x) := hH7.get 0 rfl
  have x2 := bx.at (i := 2) rfl
  have x3 := bx.at (i := 3) rfl
  have hxl := bx.1
  have bm : Box w9 mb (minL MB) := hH7.get 2 rfl
  have q2 := bm.at (i := 2) rfl
  have hml2 := bm.1
  subst hQ
  refine (?_ : VC.vc _ _ _ (.seq _ _) _ _ _)
  (repeat rw [vc_seq])
  refine vc_plain _ fun Q hQ => ?_
  simp -dsimp (maxSteps := 2000000) only [Fa.F78, rdI_of x2, x2, hxl, rdB_of q2, q2, hml2, k4, VC.Now, VC.vc_skip, VC.vc_ret, VC.vc_exit, VC.vc_block, VC.vc_cond, VC.vc_region, VC.lib, VC.mapN_drewN, VC.mapB_drewN, VC.regQ, VC.loopK, VC.reg, VC.opP, VC.opS, VC.opZ, VC.nomulB, VC.pv, VC.thenF, VC.blkF, VC.retF, VC.resV, VC.oneV, VC.evo, VC.bin, VC.binI, VC.cmpI, VC.arithI, VC.ldv, VC.slv, VC.pickP, VC.holds, VC.chainOf, VC.look, VC.junk, VC.put, VC.eff, VC.callee, VC.pureB, VC.rdK, VC.rdKs, VC.okKs, VC.eqKs, VC.fillL, VC.putL, VC.stW, VC.stOK, VC.mixF, VC.setAll, Nat.reduceAdd, Nat.reduceSub, Nat.reduceMul, if_true, if_false, ↓reduceIte, forall_const, implies_true, reduceCtorEq, ne_eq, Nat.reduceBNe, Nat.reduceBEq, IntKind.signed, Nat.reduceEqDiff, Nat.reduceLeDiff, Nat.reduceLT, eq_self, Int.reduceEq, Int.reduceLT, Int.reduceLE, Int.reduceAdd, Int.reduceSub, VC.regC_nil, VC.regC_cons, VC.regCK_eq, VC.callQ, VC.tailQ, VC.goCall, VC.chStep]
  intro u8
  subst hQ
  have bo9 : Box w9 mb (minL MB) := hH7.get 2 rfl
  have ra9 : (w9.cell? ⟨mb, 2, none⟩).isSome = true := Option.isSome_iff_exists.2 ⟨_, bo9.at (i := 2) rfl⟩
  have rb9 := bo9.soft (i := 2) (by show 2 < 5; omega)
  have ml9 := bo9.1
  have st9 := hH7.setBox 2 rfl 2 (.bool true)
  have bx9 : Box _ xb (noteL x) := st9.hp.get 0 rfl
  have u9 := bx9.at (i := 3) rfl
  have ul9 := bx9.1
  have bm9 : Box _ mb _ := st9.hp.get 2 rfl
  have rc9 := Option.isSome_iff_exists.2 ⟨_, bm9.at (i := 4) rfl⟩
  have rd9 := bm9.soft (i := 4) (by show 4 < 5; omega)
  have nl9 := bm9.1
  have sx9 := st9.hp.setBox 2 rfl 4 (iV x.n)
  have hB9 := hB7.trans ((st9.trans sx9).below hH7)
  have hH9 := sx9.hp
  have bw9 : Box _ xb (noteL x) := hH9.get 0 rfl
  have z9 := bw9.at (i := 2) rfl
  have y9 := bw9.at (i := 3) rfl
  have zl9 := bw9.1
  obtain ⟨MC, hMC⟩ : ∃ MC : MindS, MC = { MB with has := MB.has || decide (hasP f M.cnt x), value := if hasP f M.cnt x ∧ MB.has = false then x.n else MB.value } := ⟨_, rfl⟩
  have hfin : mindF n f sender M x = MC := by
    rw [hmf, hMC, hMB, hMA]
    congr 1
    by_cases h8 : readyP n f M.cnt x ∧ M.ready = false
    · simp only [if_pos h8, if_pos (Or.inr h8 : (echoP sender x ∧ M.echo = false) ∨ (readyP n f M.cnt x ∧ M.ready = false))]
    · by_cases h9 : echoP sender x ∧ M.echo = false
      · simp only [if_neg h8, if_pos h9, if_pos (Or.inl h9 : (echoP sender x ∧ M.echo = false) ∨ (readyP n f M.cnt x ∧ M.ready = false))]
      · simp only [if_neg h8, if_neg h9, if_neg (fun hh => hh.elim h9 h8 : ¬ ((echoP sender x ∧ M.echo = false) ∨ (readyP n f M.cnt x ∧ M.ready = false)))]
  simp -dsimp (maxSteps := 2000000) only [Fa.F78, rdI_of x3, x3, hxl, ra9, rb9, ml9, rdI_of u9, u9, ul9, rc9, rd9, nl9, VC.Now, VC.vc, VC.lib, VC.mapN_drewN, VC.mapB_drewN, VC.regQ, VC.loopK, VC.reg, VC.opP, VC.opS, VC.opZ, VC.nomulB, VC.pv, VC.thenF, VC.blkF, VC.retF, VC.resV, VC.oneV, VC.evo, VC.bin, VC.binI, VC.cmpI, VC.arithI, VC.ldv, VC.slv, VC.pickP, VC.holds, VC.chainOf, VC.look, VC.junk, VC.put, VC.eff, VC.callee, VC.pureB, VC.rdK, VC.rdKs, VC.okKs, VC.eqKs, VC.fillL, VC.putL, VC.stW, VC.stOK, VC.mixF, VC.setAll, Nat.reduceAdd, Nat.reduceSub, Nat.reduceMul, if_true, if_false, ↓reduceIte, forall_const, implies_true, reduceCtorEq, ne_eq, Nat.reduceBNe, Nat.reduceBEq, IntKind.signed, Nat.reduceEqDiff, Nat.reduceLeDiff, Nat.reduceLT, eq_self, Int.reduceEq, Int.reduceLT, Int.reduceLE, Int.reduceAdd, Int.reduceSub, VC.regC_nil, VC.regC_cons, VC.regCK_eq, VC.callQ, VC.tailQ, VC.goCall, VC.chStep]
  have hend : ∀ W, Below rb w W → Hp rb [oBox xb (noteL x), oBox rb z5m, oBox mb (minL MC), oOwn 280 5 (M.cnt ++ [x]).length v7 ((M.cnt ++ [x]).flatMap noteL)] W →
      ∃ m', m' < m ∧ ∃ k_1 vc, k_1 + m' = l.length ∧ [v7, Value.int IntKind.i64 ((k : Int) + 1)] = [vc, Value.int IntKind.i64 (k_1 : Nat)] ∧ Below rb w W ∧ Hp rb (MObs rb mb (mindL n f (sender : Int) (List.take k_1 l)) vc) W := by
    intro W hBW hHW
    refine ⟨m - 1, by omega, k + 1, v7, by omega, rfl, hBW, ?_⟩
    rw [hml]
    unfold MObs
    rw [hmc, hfin]
    exact Hp.sub hHW (List.sublist_cons_self ..)
  refine ⟨fun hc => ⟨fits_i64_nat (by omega), SAME.intro (by kernel_rfl), hend _ hB9 ?_⟩, fun hc => ⟨fits_i64_nat (by omega), SAME.intro (by kernel_rfl), hend _ hB7 ?_⟩⟩
  · have hep : hasP f M.cnt x := ⟨hc.1.1, by have := hc.1.2; omega⟩
    have e9 : minL MC = [.bool MB.echo, .bool MB.ready, .bool true, iV MB.word, iV x.n] := by
      rw [hMC]
      show [Value.bool MB.echo, Value.bool MB.ready, Value.bool (MB.has || decide (hasP f M.cnt x)), iV MB.word, iV (if hasP f M.cnt x ∧ MB.has = false then x.n else MB.value)] = _
      rw [if_pos (show hasP f M.cnt x ∧ MB.has = false from ⟨hep, hc.2⟩), decide_eq_true hep, Bool.or_true]
    rw [e9]; exact hH9
  · have e9 : minL MC = minL MB := by
      rw [hMC]
      show [Value.bool MB.echo, Value.bool MB.ready, Value.bool (MB.has || decide (hasP f M.cnt x)), iV MB.word, iV (if hasP f M.cnt x ∧ MB.has = false then x.n else MB.value)] = minL MB
      by_cases hep : hasP f M.cnt x
      · have : MB.has = true := by
          cases h : MB.has
          · exact absurd ⟨⟨hep.1, by have := hep.2; omega⟩, h⟩ hc
          · rfl
        rw [if_neg (show ¬ (hasP f M.cnt x ∧ MB.has = false) from fun hh => by rw [this] at hh; cases hh.2), show (MB.has || decide (hasP f M.cnt x)) = MB.has from by rw [this]; rfl]
      · rw [if_neg (show ¬ (hasP f M.cnt x ∧ MB.has = false) from fun hh => hep hh.1), decide_eq_false hep, Bool.or_false]
    rw [e9]; exact hH7
end Go.Proofs.Ytelfmhiaafkimaa
