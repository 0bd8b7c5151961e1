/- A choice: where all lies. -/
import Derived.Test.YtelfmhiaafkimaaPaxRel
import Derived.Test.YtelfmhiaafkimaaFa
namespace Go.Proofs.Ytelfmhiaafkimaa
open Go Go.RowKit Go.VC
set_option linter.unusedSimpArgs false
set_option linter.unusedVariables false

noncomputable abbrev EI : KE Try.prog 3 Int := KE.int (by kernel_rfl)
structure PA where
  wb : Nat
  gv : Nat
  mb : Nat
  vc : Value
  vf : Value
  vh : Value
  pb : Nat → Nat
  tb : Nat → Nat
abbrev nilS : Value := .slice none 0 0
abbrev ptrV (b : Nat) : Value := .pointer (some ⟨b, 0, none⟩)
abbrev worldP (n : Nat) (a : PA) : List Value := [.slice (some ⟨a.gv, 0, none⟩) n n, .map (some a.mb), a.vc, nilS, a.vf, a.vh]
abbrev vtrC (x : Vtr) : List Value := [.int .i64 x.p, .int .i64 x.tk.n, .int .i64 x.tk.v]
abbrev balC (t : Nat) (o : BalS) : List Value := [.int .i64 o.own, .int .i64 o.best.n, .int .i64 o.best.v, .int .i64 o.prom, .bool o.fixed, .map (some t)]
abbrev bL (x : Bal) : List Value := [.int .i64 x.n, .int .i64 x.v]
noncomputable def allM (a : PA) (num : Nat → Int) (k : Nat) (b : Int) : Option Value := (pidx num b k).map fun i => ptrV (a.pb i)
noncomputable def tookM (o : BalS) (x : Int) : Option Value := if 0 ≤ x ∧ o.took x.toNat = true then some (.int .i64 1) else none
noncomputable def balB (a : PA) (bal : Nat → BalS) (i : Nat) : List Ob := [oBox (a.pb i) (balC (a.tb i) (bal i)), oMap EI (a.tb i) (bal i).tooks (tookM (bal i))]
noncomputable abbrev PHead (n : Nat) (a : PA) (s : PS) : List Ob := [oBox a.wb (worldP n a), oRecs a.gv n 3 (fun i => vtrC (s.vt i)), oMap EI a.mb s.k (allM a s.num s.k), oOwn 117 2 s.fixd.length a.vf (s.fixd.flatMap bL), oOwn 117 2 s.chosen.length a.vh (s.chosen.flatMap bL)]
noncomputable def PObs (n : Nat) (a : PA) (s : PS) : List Ob := PHead n a s ++ (List.range s.k).flatMap (balB a s.bal)
noncomputable def pRest (a : PA) (bal : Nat → BalS) (k i : Nat) : List Ob := ((List.range k).erase i).flatMap (balB a bal)
theorem flatMap_same {α β : Type} {f g : α → List β} : ∀ {l : List α}, (∀ x ∈ l, f x = g x) → l.flatMap f = l.flatMap g
  | [], _ => rfl
  | x :: l, h => by
    rw [List.flatMap_cons, List.flatMap_cons, h x (by simp), flatMap_same fun y hy => h y (by simp [hy])]
theorem mem_rest {k i j : Nat} (h : j ∈ (List.range k).erase i) : j ≠ i ∧ j < k := by
  have := (List.nodup_range (n := k)).mem_erase_iff.1 h
  exact ⟨this.1, List.mem_range.1 this.2⟩
theorem pfront {n : Nat} {a : PA} {s : PS} {i : Nat} (hi : i < s.k) : (PObs n a s).Perm (PHead n a s ++ (balB a s.bal i ++ pRest a s.bal s.k i)) := by
  unfold PObs pRest
  refine List.Perm.append_left _ ?_
  have := (List.perm_cons_erase (List.mem_range.2 hi)).flatMap_right (balB a s.bal)
  rw [List.flatMap_cons] at this
  exact this
theorem pRest_upd {a : PA} {bal : Nat → BalS} {k i : Nat} {o : BalS} : pRest a (upd bal i o) k i = pRest a bal k i :=
  flatMap_same fun j hj => by unfold balB; rw [upd_other (mem_rest hj).1]
/-- How things stand while ballot i is worked on. -/
noncomputable abbrev PMid (n : Nat) (a : PA) (s : PS) (i : Nat) (vf vh : Value) (vt : Nat → Vtr) (fx ch : List Bal) (o : BalS) (m : Nat) (tk : Int → Option Value) : List Ob :=
  [oBox a.wb [.slice (some ⟨a.gv, 0, none⟩) n n, .map (some a.mb), a.vc, nilS, vf, vh], oRecs a.gv n 3 (fun i => vtrC (vt i)), oMap EI a.mb s.k (allM a s.num s.k), oOwn 117 2 fx.length vf (fx.flatMap bL), oOwn 117 2 ch.length vh (ch.flatMap bL),
    oBox (a.pb i) (balC (a.tb i) o), oMap EI (a.tb i) m tk] ++ pRest a s.bal s.k i
theorem pmid_start {n : Nat} {a : PA} {s : PS} {i : Nat} (hi : i < s.k) : (PObs n a s).Perm (PMid n a s i a.vf a.vh s.vt s.fixd s.chosen (s.bal i) (s.bal i).tooks (tookM (s.bal i))) := pfront hi
theorem pmid_end {n : Nat} {a : PA} {s : PS} {i : Nat} (hi : i < s.k) {vf vh : Value} {vt : Nat → Vtr} {fx ch : List Bal} {o : BalS} :
    (PMid n a s i vf vh vt fx ch o o.tooks (tookM o)).Perm (PObs n { a with vf := vf, vh := vh } { s with vt := vt, bal := upd s.bal i o, fixd := fx, chosen := ch }) := by
  have h := (pfront (n := n) (a := { a with vf := vf, vh := vh }) (s := { s with vt := vt, bal := upd s.bal i o, fixd := fx, chosen := ch }) (i := i) hi).symm
  have e : pRest { a with vf := vf, vh := vh } (upd s.bal i o) s.k i = pRest a s.bal s.k i := flatMap_same fun j hj => by unfold balB; rw [upd_other (mem_rest hj).1]
  unfold balB at h
  rw [e] at h
  simp only [upd_same] at h
  exact h
def PPost (B n : Nat) (a : PA) (s : PS) (w : World) (r : Int × PS) (e : Ending) (w' : World) : Prop :=
  e = .returned (.int .i64 r.1) ∧ ∃ a', a'.wb = a.wb ∧ a'.vc = a.vc ∧ St B (PObs n a s) w (PObs n a' r.2) w'
section
variable {B n t : Nat} {a : PA} {s : PS} {w : World}
theorem PPost.same (h : Hp B (PObs n a s) w) {w' : World} (hB : Below w.heap.size w w') {x : Int} {r : Int × PS} (hr : r = (x, s)) : PPost B n a s w r (.returned (.int .i64 x)) w' := by
  subst hr
  exact ⟨rfl, a, rfl, rfl, h.below_st hB⟩
theorem PPost.lift {w2 w' : World} {r : Int × PS} {e : Ending} (h : Hp B (PObs n a s) w) (hB : Below w.heap.size w w2) (k : PPost B n a s w2 r e w') : PPost B n a s w r e w' := by
  obtain ⟨h1, a', h2, h3, h4⟩ := k
  exact ⟨h1, a', h2, h3, (h.below_st hB).trans h4⟩
end
end Go.Proofs.Ytelfmhiaafkimaa
