/- A picture of what moves: what lies between. -/
import Derived.Test.YtelfmhiaafkimaaSnap7
namespace Go.Proofs.Ytelfmhiaafkimaa
open Go Go.RowKit Go.VC
set_option linter.unusedSimpArgs false
set_option linter.unusedVariables false
open Classical in
/-- What of the ways was laid when some are still to come. -/
noncomputable def laidB (n : Nat) (nv : Nat → Value) (left : Int × Int → Prop) : Nat → Value := fun t => if t / n ≠ t % n ∧ ¬ left (((t / n : Nat) : Int), ((t % n : Nat) : Int)) then nv t else nilS
open Classical in
noncomputable def doneB (n : Nat) (s : SnS) (d : Bool) (left : Int × Int → Prop) : Bool := d && decide (∀ a b : Nat, a < n → b < n → a ≠ b → ¬ left ((a : Int), (b : Int)) → closB (s.ln a b) = true)
theorem laidB_take {n f b : Nat} {nv : Nat → Value} {left : Int × Int → Prop} (hf : f < n) (hb : b < n) (hfb : f ≠ b) : laidB n nv (fun y => left y ∧ y ≠ ((f : Int), (b : Int))) = upd (laidB n nv left) (f * n + b) (nv (f * n + b)) := by
  funext t
  by_cases e : t = f * n + b
  · subst e
    rw [upd_same]
    unfold laidB
    rw [(idx_div hb).1, (idx_div hb).2, if_pos ⟨hfb, fun h => h.2 rfl⟩]
  · rw [upd_other e]
    unfold laidB
    have hn : ¬ (t / n = f ∧ t % n = b) := fun h => e ((tdiv hf hb t).2 h)
    have hx : (((t / n : Nat) : Int), ((t % n : Nat) : Int)) ≠ ((f : Int), (b : Int)) := fun h => hn ⟨by have := congrArg Prod.fst h; simp only at this; omega, by have := congrArg Prod.snd h; simp only at this; omega⟩
    exact ifc (and_congr_right fun _ => not_congr ⟨fun h => h.1, fun h => ⟨h, hx⟩⟩)
open Classical in
theorem doneB_take {n f b : Nat} {s : SnS} {d : Bool} {left : Int × Int → Prop} (hf : f < n) (hb : b < n) (hfb : f ≠ b) (hl : left ((f : Int), (b : Int))) : doneB n s d (fun y => left y ∧ y ≠ ((f : Int), (b : Int))) = (doneB n s d left && closB (s.ln f b)) := by
  unfold doneB
  rw [Bool.and_assoc]
  congr 1
  rw [Bool.eq_iff_iff, Bool.and_eq_true, decide_eq_true_eq, decide_eq_true_eq]
  constructor
  · intro h
    exact ⟨fun a c ha hc hac hn => h a c ha hc hac fun hh => hn hh.1, h f b hf hb hfb fun hh => hh.2 rfl⟩
  · rintro ⟨h, hc⟩ a c ha hc2 hac hn
    by_cases e : a = f ∧ c = b
    · rw [e.1, e.2]; exact hc
    · refine h a c ha hc2 hac fun hh => hn ⟨hh, fun e2 => e ⟨?_, ?_⟩⟩
      · have := congrArg Prod.fst e2; simp only at this; omega
      · have := congrArg Prod.snd e2; simp only at this; omega
/-- What follows, behind a name. -/
theorem wp_plain {X : Ctx} {P : Program} {n : Nat} {c : Code} {Q : Exit → Array Value → World → Prop} {f : Array Value} {w : World} (h : ∀ Q', Q' = Q → WP X P n c Q' f w) : WP X P n c Q f w := h Q rfl
theorem map_set {N t : Nat} {F : Nat → Value} {v : Value} (ht : t < N) : ((List.range N).map F).set t v = (List.range N).map (upd F t v) := by
  apply List.ext_getElem?
  intro j
  rw [List.getElem?_set]
  by_cases e : t = j
  · subst e
    rw [if_pos rfl, if_pos (by simpa using ht)]
    simp [ht, upd_same]
  · rw [if_neg e]
    by_cases hj : j < N
    · simp [hj, upd_other (Ne.symm e)]
    · rw [List.getElem?_eq_none (by simp; omega), List.getElem?_eq_none (by simp; omega)]
theorem allOwn_spec {s : SnS} : ∀ {n : Nat}, allOwn s n = true ↔ ∀ b, b < n → ¬ s.own b = -1
  | 0 => ⟨fun _ b hb => absurd hb (Nat.not_lt_zero b), fun _ => rfl⟩
  | n + 1 => by
    show (allOwn s n && decide (¬ s.own n = -1)) = true ↔ _
    rw [Bool.and_eq_true, decide_eq_true_eq, allOwn_spec]
    constructor
    · rintro ⟨h1, h2⟩ b hb
      by_cases e : b = n
      · rw [e]; exact h2
      · exact h1 b (by omega)
    · exact fun h => ⟨fun b hb => h b (by omega), h n (by omega)⟩
open Classical in
theorem doneB_start {n : Nat} {s : SnS} {d : Bool} {left : Int × Int → Prop} (h : ∀ a b : Nat, a < n → b < n → a ≠ b → left ((a : Int), (b : Int))) : doneB n s d left = d := by
  unfold doneB
  rw [decide_eq_true (fun a b ha hb hab hn => absurd (h a b ha hb hab) hn), Bool.and_true]
open Classical in
theorem doneB_end {n k : Nat} {s : SnS} {left : Int × Int → Prop} (hinv : SNV n k s) (hno : ∀ a b : Nat, a < n → b < n → ¬ left ((a : Int), (b : Int))) : doneB n s (allOwn s n) left = doneS n s := by
  unfold doneB doneS
  rw [Bool.eq_iff_iff, Bool.and_eq_true, decide_eq_true_eq, decide_eq_true_eq, allOwn_spec]
  constructor
  · rintro ⟨h1, h2⟩
    exact ⟨fun b hb => by have := h1 b hb; have := hinv.o0 b; omega, fun a b ha hb hab => h2 a b ha hb hab (hno a b ha hb)⟩
  · rintro ⟨h1, h2⟩
    exact ⟨fun b hb => by have := h1 b hb; omega, fun a b ha hb hab _ => h2 a b ha hb hab⟩
set_option maxRecDepth 8000 in
set_option maxHeartbeats 8000000 in
theorem snap_rest2 : snapBut2.1 := by
  unfold snapBut2
  refine ⟨?_, trivial⟩
  intro A c0 A2 cap m g w wa rb hrb u w1 w2 a w9 b7 mm u3 wx t q vc hlen codes hcl s wy w4 gb w5 m2 u4 wx2 n mv ov hBx h1 hn hnn36 hinv hH e9
  have bw : Box wx2 a.wb [.slice (some ⟨a.gp, 0, none⟩) n a.gc, .map (some a.mb)] := hH.get 6 rfl
  have m1 := bw.at (i := 1) rfl
  have hwl := bw.1
  have hM : MapV Try.prog EW wx2 a.mb a.cnt (wayM n a.xb) := hH.get 8 rfl
  simp -dsimp (maxSteps := 2000000) only [Fa.F24, e9, rdM_of m1, m1, hwl, VC.Now, VC.vc, VC.lib, VC.mapN_drewN, VC.mapB_drewN, VC.regQ, VC.loopK, VC.reg, VC.opP, VC.opS, VC.opZ, VC.nomulB, VC.pv, VC.thenF, VC.blkF, VC.retF, VC.resV, VC.oneV, VC.evo, VC.bin, VC.binI, VC.cmpI, VC.arithI, VC.ldv, VC.slv, VC.pickP, VC.holds, VC.chainOf, VC.look, VC.junk, VC.put, VC.eff, VC.callee, VC.pureB, VC.rdK, VC.rdKs, VC.okKs, VC.eqKs, VC.fillL, VC.putL, VC.stW, VC.stOK, VC.mixF, VC.setAll, Nat.reduceAdd, Nat.reduceSub, Nat.reduceMul, if_true, if_false, ↓reduceIte, forall_const, implies_true, reduceCtorEq, ne_eq, Nat.reduceBNe, Nat.reduceBEq, IntKind.signed, Nat.reduceEqDiff, Nat.reduceLeDiff, Nat.reduceLT, eq_self, Int.reduceEq, Int.reduceLT, Int.reduceLE, Int.reduceAdd, Int.reduceSub, VC.regC_nil, VC.regC_cons, VC.regCK_eq, VC.callQ, VC.tailQ, VC.goCall, VC.chStep]
  refine OPW_rangeV hM rfl (by kernel_rfl) rfl fun w3 hRg hB1 hs1 => ?_
  rw [VC.Now, VC.seqK_eq]
  simp -dsimp (maxSteps := 2000000) only [Fa.F24, VC.Now, VC.vc, VC.lib, VC.mapN_drewN, VC.mapB_drewN, VC.regQ, VC.loopK, VC.reg, VC.opP, VC.opS, VC.opZ, VC.nomulB, VC.pv, VC.thenF, VC.blkF, VC.retF, VC.resV, VC.oneV, VC.evo, VC.bin, VC.binI, VC.cmpI, VC.arithI, VC.ldv, VC.slv, VC.pickP, VC.holds, VC.chainOf, VC.look, VC.junk, VC.put, VC.eff, VC.callee, VC.pureB, VC.rdK, VC.rdKs, VC.okKs, VC.eqKs, VC.fillL, VC.putL, VC.stW, VC.stOK, VC.mixF, VC.setAll, Nat.reduceAdd, Nat.reduceSub, Nat.reduceMul, if_true, if_false, ↓reduceIte, forall_const, implies_true, reduceCtorEq, ne_eq, Nat.reduceBNe, Nat.reduceBEq, IntKind.signed, Nat.reduceEqDiff, Nat.reduceLeDiff, Nat.reduceLT, eq_self, Int.reduceEq, Int.reduceLT, Int.reduceLE, Int.reduceAdd, Int.reduceSub, VC.regC_nil, VC.regC_cons, VC.regCK_eq, VC.callQ, VC.tailQ, VC.goCall, VC.chStep]
  have hl0 : ∀ i j : Nat, i < n → j < n → i ≠ j → (wayM n a.xb ((i : Int), (j : Int))).isSome = true := fun i j hi hj hij => by rw [wayM_at hi hj hij]; rfl
  have hH1 : Hp rb (LEnd n t gb b7 rb a s q vc mv ov codes (laidB n q.nv fun x => (wayM n a.xb x).isSome = true) n (doneB n s (allOwn s n) fun x => (wayM n a.xb x).isSome = true)) w3 := by
    have e1 : (List.range (n * n)).map (laidB n q.nv fun x => (wayM n a.xb x).isSome = true) = (List.range (n * n)).map fun _ => nilS := List.map_congr_left fun t ht => by
      have ht : t < n * n := by simpa using ht
      unfold laidB
      rw [if_neg]
      rintro ⟨h3, h4⟩
      exact h4 (hl0 _ _ (Nat.div_lt_of_lt_mul ht) (Nat.mod_lt _ (by omega)) h3)
    have e2 : doneB n s (allOwn s n) (fun x => (wayM n a.xb x).isSome = true) = allOwn s n := doneB_start hl0
    unfold LEnd
    rw [e1, e2]
    exact hH.below hB1
  have hBy := hBx.trans (hB1.mono hH.base)
  have hfr : ∀ (left : Int × Int → Prop) (g : Nat), foot (LEnd n t gb b7 rb a s q vc mv ov codes (laidB n q.nv left) n (doneB n s (allOwn s n) left)) g → g < wx2.heap.size := fun left g hg => (hH.foot_lt (foot_congr (L := LEnd n t gb b7 rb a s q vc mv ov codes (laidB n q.nv left) n (doneB n s (allOwn s n) left)) rfl hg)).2
  have hrr := hH.base
  clear hH hM bw m1 hwl hB1 hs1 hBx
  generalize wx2.heap.size = rr at hRg hfr hrr ⊢
  refine loop_slots Fa.mix [] [13, 14, 92, 93, 94, 95, 96, 97, 98, 99, 100, 101, 102, 103, 104, 105, 106, 107, 108, 109, 110, 111, 112, 113, 114, 115, 116, 117, 118, 119] (fun m vs wr => ∃ left : Int × Int → Prop, vs = [] ∧ RangeV Try.prog EW wr a.mb rr a.cnt (wayM n a.xb) left m ∧ Below rb w wr ∧ rr < wr.heap.size ∧ Hp rb (LEnd n t gb b7 rb a s q vc mv ov codes (laidB n q.nv left) n (doneB n s (allOwn s n) left)) wr) a.cnt (by kernel_rfl) rfl
    ⟨_, rfl, hRg, hBy, hRg.lt, hH1⟩ ?_
  clear hRg hBy hH1
  rintro m5 vs u5 wr ⟨left, rfl, hRg, hBx, hrl, hH⟩
  simp -dsimp (maxSteps := 2000000) only [Fa.F24, VC.Now, VC.vc, VC.lib, VC.mapN_drewN, VC.mapB_drewN, VC.regQ, VC.loopK, VC.reg, VC.opP, VC.opS, VC.opZ, VC.nomulB, VC.pv, VC.thenF, VC.blkF, VC.retF, VC.resV, VC.oneV, VC.evo, VC.bin, VC.binI, VC.cmpI, VC.arithI, VC.ldv, VC.slv, VC.pickP, VC.holds, VC.chainOf, VC.look, VC.junk, VC.put, VC.eff, VC.callee, VC.pureB, VC.rdK, VC.rdKs, VC.okKs, VC.eqKs, VC.fillL, VC.putL, VC.stW, VC.stOK, VC.mixF, VC.setAll, Nat.reduceAdd, Nat.reduceSub, Nat.reduceMul, if_true, if_false, ↓reduceIte, forall_const, implies_true, reduceCtorEq, ne_eq, Nat.reduceBNe, Nat.reduceBEq, IntKind.signed, Nat.reduceEqDiff, Nat.reduceLeDiff, Nat.reduceLT, eq_self, Int.reduceEq, Int.reduceLT, Int.reduceLE, Int.reduceAdd, Int.reduceSub, VC.regC_nil, VC.regC_cons, VC.regCK_eq, VC.callQ, VC.tailQ, VC.goCall, VC.chStep]
  refine OPW_nextV hRg rfl rfl (fun h0 hno => ?_) (fun x vx w6 cnt' hx hlx hmx hRg2 hlt hA2 hs2 hE => ?_)
  · rw [VC.Now, VC.seqK_eq]
    have hno' : ∀ a b : Nat, a < n → b < n → ¬ left ((a : Int), (b : Int)) := fun i j hi hj => hno _ (EW_ok (by omega) (by omega))
    rw [doneB_end hinv hno'] at hH
    obtain ⟨Ac, cc, rfl, _⟩ := id (hH.get 2 rfl : OwnK wr 0 24 1 t vc _)
    obtain ⟨Aw, cw, rfl, _⟩ := id (hH.get 0 rfl : OwnK wr 0 3 1 n mv _)
    obtain ⟨Ab, cb, rfl, _⟩ := id (hH.get 1 rfl : OwnK wr 0 3 1 n ov _)
    have bo : Box wr b7 [.slice Ac t cc, .slice Aw n cw, .slice Ab n cb, .slice (some ⟨gb, 0, none⟩) (n * n) (n * n), .bool (doneS n s)] := hH.get 3 rfl
    have b0 := bo.at (i := 0) rfl
    have b1 := bo.at (i := 1) rfl
    have b2 := bo.at (i := 2) rfl
    have b3 := bo.at (i := 3) rfl
    have b4 := bo.at (i := 4) rfl
    have hol := bo.1
    obtain ⟨ok, st2⟩ := hH.allBox 4 rfl (vs := [.slice Ac t cc, .slice Aw n cw, .slice Ab n cb, .slice (some ⟨gb, 0, none⟩) (n * n) (n * n), .bool (doneS n s)]) rfl (by intro v hv; simp at hv; rcases hv with rfl | rfl | rfl | rfl | rfl <;> rfl)
    have rb5 : Box _ rb [.slice Ac t cc, .slice Aw n cw, .slice Ab n cb, .slice (some ⟨gb, 0, none⟩) (n * n) (n * n), .bool (doneS n s)] := st2.hp.get 4 rfl
    have t0 := rb5.at (i := 0) rfl
    have t1 := rb5.at (i := 1) rfl
    have t2 := rb5.at (i := 2) rfl
    have t3 := rb5.at (i := 3) rfl
    have t4 := rb5.at (i := 4) rfl
    simp -dsimp (maxSteps := 2000000) only [Fa.F24, hol, rdSA_of b0, rdSN_of b0, rdSC_of b0, b0, rdSA_of b1, rdSN_of b1, rdSC_of b1, b1, rdSA_of b2, rdSN_of b2, rdSC_of b2, b2, rdSA_of b3, rdSN_of b3, rdSC_of b3, b3, rdB_of b4, b4, rdSA_of t0, rdSN_of t0, rdSC_of t0, t0, rdSA_of t1, rdSN_of t1, rdSC_of t1, t1, rdSA_of t2, rdSN_of t2, rdSC_of t2, t2, rdSA_of t3, rdSN_of t3, rdSC_of t3, t3, rdB_of t4, t4, VC.Now, VC.vc, VC.lib, VC.mapN_drewN, VC.mapB_drewN, VC.regQ, VC.loopK, VC.reg, VC.opP, VC.opS, VC.opZ, VC.nomulB, VC.pv, VC.thenF, VC.blkF, VC.retF, VC.resV, VC.oneV, VC.evo, VC.bin, VC.binI, VC.cmpI, VC.arithI, VC.ldv, VC.slv, VC.pickP, VC.holds, VC.chainOf, VC.look, VC.junk, VC.put, VC.eff, VC.callee, VC.pureB, VC.rdK, VC.rdKs, VC.okKs, VC.eqKs, VC.fillL, VC.putL, VC.mixF, VC.setAll, Nat.reduceAdd, Nat.reduceSub, Nat.reduceMul, if_true, if_false, ↓reduceIte, forall_const, implies_true, reduceCtorEq, ne_eq, Nat.reduceBNe, Nat.reduceBEq, IntKind.signed, Nat.reduceEqDiff, Nat.reduceLeDiff, Nat.reduceLT, eq_self, Int.reduceEq, Int.reduceLT, Int.reduceLE, Int.reduceAdd, Int.reduceSub, VC.regC_nil, VC.regC_cons, VC.regCK_eq, VC.callQ, VC.tailQ, VC.goCall, VC.chStep]
    have hE : Hp rb ([oOwn 3 1 n (.slice Aw n cw) (monL s n), oOwn 3 1 n (.slice Ab n cb) (ownL s n)] ++ ([oOwn 24 1 t (.slice Ac t cc) (codes.map (Value.int .i64)), oBox b7 [.slice Ac t cc, .slice Aw n cw, .slice Ab n cb, .slice (some ⟨gb, 0, none⟩) (n * n) (n * n), .bool (doneS n s)], oBox rb [.slice Ac t cc, .slice Aw n cw, .slice Ab n cb, .slice (some ⟨gb, 0, none⟩) (n * n) (n * n), .bool (doneS n s)], oBox gb ((List.range (n * n)).map (laidB n q.nv left))] ++ NObs n a (pOf n s) q)) _ := st2.hp
    have q0 := (hE.get 2 rfl : OwnK _ 0 24 1 t _ _)
    have q1 := (hE.get 0 rfl : OwnK _ 0 3 1 n _ (monL s n))
    have q2 := (hE.get 1 rfl : OwnK _ 0 3 1 n _ (ownL s n))
    have bg : Box _ gb ((List.range (n * n)).map (laidB n q.nv left)) := hE.get 5 rfl
    have hNn := hp_right (hp_right hE)
    refine ⟨ok, _, rfl, ⟨Ac, cc, Aw, cw, Ab, cb, some ⟨gb, 0, none⟩, n * n, rfl, hcl, q0.rd.2, by rw [List.map_map]; exact q1.rd.2, by rw [List.map_map]; exact q2.rd.2, fun i hi => ?_⟩, by rw [hrb]; exact hBx.trans (st2.below hH)⟩
    have hi : i < n * n := by unfold btwS at hi; simpa using hi
    have hget : (btwS n s).getD i [] = notedL (s.own (i % n)) (s.ln (i / n) (i % n)) := by unfold btwS; simp [hi]
    have hbi := bg.at (i := i) (v := laidB n q.nv left i) (by simp [hi])
    rw [hget]
    by_cases hdi : i / n = i % n
    · have h0 : notedL (s.own (i % n)) (s.ln (i / n) (i % n)) = [] := by
        rw [hdi]
        unfold notedL betwL openL
        rw [hinv.self]
        split <;> simp
      have hlb : laidB n q.nv left i = nilS := by unfold laidB; rw [if_neg (fun h => h.1 hdi)]
      rw [hlb] at hbi
      rw [h0]
      exact ⟨gb, 0, none, 0, rfl, bg.1, by rw [Nat.zero_add]; exact hbi, fun h => absurd h (by simp)⟩
    · have hlb : laidB n q.nv left i = q.nv i := by unfold laidB; rw [if_pos ⟨hdi, hno' _ _ (Nat.div_lt_of_lt_mul hi) (Nat.mod_lt _ (by omega))⟩]
      rw [hlb] at hbi
      have hN := NObs.nts hNn hi
      obtain ⟨An, cn, en, _⟩ := id hN
      rw [en] at hbi hN
      exact ⟨gb, 0, An, cn, rfl, bg.1, by rw [Nat.zero_add]; exact hbi, hN.rd.2⟩
  · obtain ⟨f, b, hf, hb, hfb, rfl, rfl⟩ := wayM_key hmx
    have hE' : EntryV Try.prog w6 rr (.agg #[.int .i64 f, .int .i64 b]) (ptrV (a.xb (f * n + b))) := hE
    have hH2 := hH.agree hA2 (fun g hg e => by have := hfr _ g hg; omega)
    have hB2 := hA2.to_below hBx hH.base fun i hi => by omega
    have hrl2 : rr < w6.heap.size := by omega
    rw [VC.Now, VC.seqK_eq]
    simp -dsimp (maxSteps := 2000000) only [Fa.F24, VC.Now, VC.vc, VC.lib, VC.mapN_drewN, VC.mapB_drewN, VC.regQ, VC.loopK, VC.reg, VC.opP, VC.opS, VC.opZ, VC.nomulB, VC.pv, VC.thenF, VC.blkF, VC.retF, VC.resV, VC.oneV, VC.evo, VC.bin, VC.binI, VC.cmpI, VC.arithI, VC.ldv, VC.slv, VC.pickP, VC.holds, VC.chainOf, VC.look, VC.junk, VC.put, VC.eff, VC.callee, VC.pureB, VC.rdK, VC.rdKs, VC.okKs, VC.eqKs, VC.fillL, VC.putL, VC.stW, VC.stOK, VC.mixF, VC.setAll, Nat.reduceAdd, Nat.reduceSub, Nat.reduceMul, if_true, if_false, ↓reduceIte, forall_const, implies_true, reduceCtorEq, ne_eq, Nat.reduceBNe, Nat.reduceBEq, IntKind.signed, Nat.reduceEqDiff, Nat.reduceLeDiff, Nat.reduceLT, eq_self, Int.reduceEq, Int.reduceLT, Int.reduceLE, Int.reduceAdd, Int.reduceSub, VC.regC_nil, VC.regC_cons, VC.regCK_eq, VC.callQ, VC.tailQ, VC.goCall, VC.chStep]
    refine OPW_entryV hE' rfl rfl ?_
    rw [VC.Now, VC.seqK_eq]
    obtain ⟨f1, f2, f3⟩ := boxMade w6 [iV 0, iV 0] [iV f, iV b] 154 rfl (by intro v hv; simp at hv; rcases hv with rfl | rfl <;> rfl)
    simp -dsimp (maxSteps := 2000000) only [Fa.F24, VC.Now, VC.vc, VC.lib, VC.mapN_drewN, VC.mapB_drewN, VC.regQ, VC.loopK, VC.reg, VC.opP, VC.opS, VC.opZ, VC.nomulB, VC.pv, VC.thenF, VC.blkF, VC.retF, VC.resV, VC.oneV, VC.evo, VC.bin, VC.binI, VC.cmpI, VC.arithI, VC.ldv, VC.slv, VC.pickP, VC.holds, VC.chainOf, VC.look, VC.junk, VC.put, VC.eff, VC.callee, VC.pureB, VC.rdK, VC.rdKs, VC.okKs, VC.eqKs, VC.fillL, VC.putL, VC.mixF, VC.setAll, Nat.reduceAdd, Nat.reduceSub, Nat.reduceMul, if_true, if_false, ↓reduceIte, forall_const, implies_true, reduceCtorEq, ne_eq, Nat.reduceBNe, Nat.reduceBEq, IntKind.signed, Nat.reduceEqDiff, Nat.reduceLeDiff, Nat.reduceLT, eq_self, Int.reduceEq, Int.reduceLT, Int.reduceLE, Int.reduceAdd, Int.reduceSub, VC.regC_nil, VC.regC_cons, VC.regCK_eq, VC.callQ, VC.tailQ, VC.goCall, VC.chStep]
    refine ⟨f1, ?_⟩
    clear f1
    have hH3 := hH2.below f3
    have hRg3 := hRg2.below f3
    have hB3 := hB2.trans (f3.mono hH2.base)
    have hrk : rr ≠ w6.heap.size := by omega
    have hrl3 := Nat.lt_of_lt_of_le hrl2 f3.size
    generalize stW (w6.alloc (.cells #[iV 0, iV 0] 154)) ⟨w6.heap.size, 0, none⟩ 0 [iV f, iV b] = w7 at f2 hH3 hRg3 hB3 hrl3 ⊢
    clear hH2 hRg2 hB2 f3 hH hBx hRg hrl
    generalize w6.heap.size = kb at f2 hrk ⊢
    have ht := idx_lt hf hb
    have hd : (f * n + b) / n ≠ (f * n + b) % n := by rw [(idx_div hb).1, (idx_div hb).2]; exact hfb
    have hHn := hp_right (hp_right hH3)
    have hbx := NObs.box hHn ht hd
    have hN := NObs.nts hHn ht
    obtain ⟨An, cn, en, _⟩ := id hN
    have hbe := hbx
    rw [en] at hbe
    have k0 := f2.at (i := 0) rfl
    have k1 : w7.cell? ⟨kb, Int.toNat 1, none⟩ = some (iV b) := f2.at (i := 1) rfl
    have hkl := f2.1
    have bx7 : Box w7 b7 _ := hH3.get 3 rfl
    have y3 := bx7.at (i := 3) rfl
    have hol := bx7.1
    have n1 := hbe.at (i := 1) rfl
    have hxl := hbe.1
    have ej1 : (f : Int) * n = ((f * n : Nat) : Int) := by simp
    have ej2 : ((f * n : Nat) : Int) + (b : Int) = ((f * n + b : Nat) : Int) := by simp
    have hfn : f * n ≤ n * n := Nat.mul_le_mul_right n (Nat.le_of_lt hf)
    refine wp_plain fun Q hQ => ?_
    refine WP_tail 14 Fa.mix (by kernel_rfl) (by kernel_rfl) (by kernel_rfl) rfl ?_
    simp -dsimp (maxSteps := 2000000) only [Fa.F24, rdSA_of y3, rdSN_of y3, rdSC_of y3, y3, rdI_of k0, k0, rdI_of k1, k1, rdSA_of n1, rdSN_of n1, rdSC_of n1, n1, hol, hkl, hxl, ej1, ej2, Int.toNat_natCast, Nat.zero_add, VC.Now, VC.vc_skip, VC.vc_ret, VC.vc_exit, VC.vc_block, VC.vc_cond, VC.vc_region, VC.lib, VC.mapN_drewN, VC.mapB_drewN, VC.regQ, VC.loopK, VC.reg, VC.opP, VC.opS, VC.opZ, VC.nomulB, VC.pv, VC.thenF, VC.blkF, VC.retF, VC.resV, VC.oneV, VC.evo, VC.bin, VC.binI, VC.cmpI, VC.arithI, VC.ldv, VC.slv, VC.pickP, VC.holds, VC.chainOf, VC.look, VC.junk, VC.put, VC.eff, VC.callee, VC.pureB, VC.rdK, VC.rdKs, VC.okKs, VC.eqKs, VC.fillL, VC.putL, VC.stW, VC.stOK, VC.mixF, VC.setAll, Nat.reduceAdd, Nat.reduceSub, Nat.reduceMul, if_true, if_false, ↓reduceIte, forall_const, implies_true, reduceCtorEq, ne_eq, Nat.reduceBNe, Nat.reduceBEq, IntKind.signed, Nat.reduceEqDiff, Nat.reduceLeDiff, Nat.reduceLT, eq_self, Int.reduceEq, Int.reduceLT, Int.reduceLE, Int.reduceAdd, Int.reduceSub, VC.regC_nil, VC.regC_cons, VC.regCK_eq, VC.callQ, VC.tailQ, VC.goCall, VC.chStep]
    refine ⟨by decide, fits_i64 (by omega) (by omega), by decide, fits_i64 (by omega) (by omega), ⟨by omega, by omega⟩, fun w8 hB8 => ?_⟩
    have hH8 := hH3.below hB8
    have hRg8 := hRg3.below hB8
    have hrl8 := Nat.lt_of_lt_of_le hrl3 hB8.size
    have hBw8 := hB3.trans (hB8.mono hH3.base)
    have bg : Box w8 gb ((List.range (n * n)).map (laidB n q.nv left)) := hH8.get 5 rfl
    have g0 := bg.at (i := f * n + b) (v := laidB n q.nv left (f * n + b)) (by simp [ht])
    have g1 : (w8.cell? ⟨gb, f * n + b, none⟩).isSome = true := by rw [g0]; rfl
    have g2 := bg.soft (i := f * n + b) (by simpa using ht)
    have st9 := hH8.setBox 5 rfl (f * n + b) (q.nv (f * n + b))
    rw [map_set ht, ← laidB_take hf hb hfb, en] at st9
    refine ⟨⟨g1, g2⟩, ?_⟩
    have hng : gb ≠ a.mb := fun e => hH8.ne 5 8 (by decide) rfl rfl gb rfl (by rw [e]; rfl)
    have hn7 : b7 ≠ a.mb := fun e => hH8.ne 3 8 (by decide) rfl rfl b7 rfl (by rw [e]; rfl)
    have hgr : gb < rr := hfr left gb (foot_at (i := 5) rfl rfl)
    have h7r : b7 < rr := hfr left b7 (foot_at (i := 3) rfl rfl)
    have hH9 : Hp rb (LEnd n t gb b7 rb a s q vc mv ov codes (laidB n q.nv fun y => left y ∧ y ≠ ((f : Int), (b : Int))) n (doneB n s (allOwn s n) left)) _ := st9.hp
    have hRg9 := hRg8.agree (Agree.setCell (X := fun g => g = gb) w8 (.slice An ((pOf n s).nts (f * n + b)).length cn) (a := ⟨gb, f * n + b, none⟩) rfl) (fun e => hng e.symm) (by omega)
    have hBw9 := hBw8.trans (st9.below hH8)
    have hrl9 := Nat.lt_of_lt_of_le hrl8 st9.agree.size
    generalize w8.setCell ⟨gb, f * n + b, none⟩ (.slice An ((pOf n s).nts (f * n + b)).length cn) = w9' at hH9 hRg9 hBw9 hrl9 ⊢
    clear st9 g0 g1 g2 bg hBw8 hrl8 hRg8 hH8 hB8 n1 hxl y3 hol bx7 hbx hN hbe
    have hHn9 := hp_right (hp_right hH9)
    have hbx := NObs.box hHn9 ht hd
    have hcl2 : (pOf n s).clo (f * n + b) = closB (s.ln f b) := by show closB (s.ln ((f * n + b) / n) ((f * n + b) % n)) = _; rw [(idx_div hb).1, (idx_div hb).2]
    rw [hcl2] at hbx
    have n2 := hbx.at (i := 2) rfl
    have hxl := hbx.1
    have b9 : Box w9' b7 _ := hH9.get 3 rfl
    have q4 := b9.at (i := 4) rfl
    have f4 := b9.soft (i := 4) (by show 4 < 5; omega)
    have k4 : (w9'.cell? ⟨b7, 4, none⟩).isSome = true := by rw [q4]; rfl
    have hl9 := b9.1
    have htk := doneB_take (s := s) (d := allOwn s n) hf hb hfb hlx
    have st10 := hH9.setBox 3 rfl 4 (.bool (doneB n s (allOwn s n) fun y => left y ∧ y ≠ ((f : Int), (b : Int))))
    have hB10 := hBw9.trans (st10.below hH9)
    have hrl10 := Nat.lt_of_lt_of_le hrl9 st10.agree.size
    have hRg10 := hRg9.agree (Agree.setCell (X := fun g => g = b7) w9' (.bool (doneB n s (allOwn s n) fun y => left y ∧ y ≠ ((f : Int), (b : Int)))) (a := ⟨b7, 4, none⟩) rfl) (fun e => hn7 e.symm) (by omega)
    subst hQ
    cases hdn : doneB n s (allOwn s n) left with
    | false =>
      rw [hdn] at q4 htk
      have htk2 : doneB n s (allOwn s n) (fun y => left y ∧ y ≠ ((f : Int), (b : Int))) = false := htk
      simp -dsimp (maxSteps := 2000000) only [Fa.F24, rdB_of q4, q4, hl9, f4, k4, undef, tu, uf, ul, ur, VC.Now, VC.vc, VC.lib, VC.mapN_drewN, VC.mapB_drewN, VC.regQ, VC.loopK, VC.reg, VC.opP, VC.opS, VC.opZ, VC.nomulB, VC.pv, VC.thenF, VC.blkF, VC.retF, VC.resV, VC.oneV, VC.evo, VC.bin, VC.binI, VC.cmpI, VC.arithI, VC.ldv, VC.slv, VC.pickP, VC.holds, VC.chainOf, VC.look, VC.junk, VC.put, VC.eff, VC.callee, VC.pureB, VC.rdK, VC.rdKs, VC.okKs, VC.eqKs, VC.fillL, VC.putL, VC.stW, VC.stOK, VC.mixF, VC.setAll, Nat.reduceAdd, Nat.reduceSub, Nat.reduceMul, if_true, if_false, ↓reduceIte, forall_const, implies_true, reduceCtorEq, ne_eq, Nat.reduceBNe, Nat.reduceBEq, IntKind.signed, Nat.reduceEqDiff, Nat.reduceLeDiff, Nat.reduceLT, eq_self, Int.reduceEq, Int.reduceLT, Int.reduceLE, Int.reduceAdd, Int.reduceSub, VC.regC_nil, VC.regC_cons, VC.regCK_eq, VC.callQ, VC.tailQ, VC.goCall, VC.chStep]
      rw [htk2] at st10 hB10 hrl10 hRg10
      refine ⟨SAME.intro (by kernel_rfl), cnt', hlt, fun y => left y ∧ y ≠ ((f : Int), (b : Int)), ?_⟩
      rw [htk2]
      exact ⟨hRg10, hB10, hrl10, st10.hp⟩
    | true =>
      rw [hdn] at q4 htk
      have htk2 : doneB n s (allOwn s n) (fun y => left y ∧ y ≠ ((f : Int), (b : Int))) = closB (s.ln f b) := htk
      simp -dsimp (maxSteps := 2000000) only [Fa.F24, rdB_of q4, q4, rdB_of n2, n2, hxl, hl9, f4, k4, undef, tu, uf, ul, ur, VC.Now, VC.vc, VC.lib, VC.mapN_drewN, VC.mapB_drewN, VC.regQ, VC.loopK, VC.reg, VC.opP, VC.opS, VC.opZ, VC.nomulB, VC.pv, VC.thenF, VC.blkF, VC.retF, VC.resV, VC.oneV, VC.evo, VC.bin, VC.binI, VC.cmpI, VC.arithI, VC.ldv, VC.slv, VC.pickP, VC.holds, VC.chainOf, VC.look, VC.junk, VC.put, VC.eff, VC.callee, VC.pureB, VC.rdK, VC.rdKs, VC.okKs, VC.eqKs, VC.fillL, VC.putL, VC.stW, VC.stOK, VC.mixF, VC.setAll, Nat.reduceAdd, Nat.reduceSub, Nat.reduceMul, if_true, if_false, ↓reduceIte, forall_const, implies_true, reduceCtorEq, ne_eq, Nat.reduceBNe, Nat.reduceBEq, IntKind.signed, Nat.reduceEqDiff, Nat.reduceLeDiff, Nat.reduceLT, eq_self, Int.reduceEq, Int.reduceLT, Int.reduceLE, Int.reduceAdd, Int.reduceSub, VC.regC_nil, VC.regC_cons, VC.regCK_eq, VC.callQ, VC.tailQ, VC.goCall, VC.chStep]
      rw [htk2] at st10 hB10 hrl10 hRg10
      refine ⟨SAME.intro (by kernel_rfl), cnt', hlt, fun y => left y ∧ y ≠ ((f : Int), (b : Int)), ?_⟩
      rw [htk2]
      exact ⟨hRg10, hB10, hrl10, st10.hp⟩
/-- The program's whole run. -/
theorem snapP_any (A : Option Addr) (n c0 : Nat) (A2 : Option Addr) (len cap : Nat) (m : Nat → Int) (g : Nat → PassC) (w : World) (hv : RdT w A n 1 (fun i => [.int .i64 (m i)])) (hm : ∀ i, 0 ≤ m i ∧ m i ≤ 1000) (hr : RdT w A2 len 4 (fun i => passL (g i))) (hgf : ∀ i, fits .i64 (g i).n) (h1 : 1 ≤ n) (hn : n ≤ 6) (hlen : len ≤ 120) :
    Calls Try.prog 24 #[.slice A n c0, .slice A2 len cap] w fun e w' => ∃ v, e = .returned (.tuple #[v, .int .i64 0]) ∧ SnapQ n len ((List.range len).map (ncode n m g)) (nst n m g len) v w' ∧ Below w.heap.size w w' :=
  snapBut.2 (snapBut2.2 snap_rest2) A n c0 A2 len cap m g w hv hm hr hgf h1 hn hlen
end Go.Proofs.Ytelfmhiaafkimaa
