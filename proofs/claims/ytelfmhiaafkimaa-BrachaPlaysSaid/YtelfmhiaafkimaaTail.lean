/- A region of reads and calls with a tail in one order, where the tail needs what the guarded operations gave. -/
import Derived.Test.YtelfmhiaafkimaaDraw
namespace Go.VC
open Go Go.RowKit
set_option linter.unusedVariables false
set_option linter.unusedSimpArgs false

theorem presentR_nil (r : Array Value) : presentR r [] := fun d b h => by cases h
theorem Inv.of_holds {r f : Array Value} {ch : Ch} (I : Inv r f ch) : ∀ c : List (Nat × Bool), (c = [] ∨ ∃ d b, c = (d, b) :: look ch d) → holds f c → presentR r c
  | [], _, _ => presentR_nil r
  | (d, b) :: c, hc, hp => by
    obtain ⟨d', b', h⟩ := hc.resolve_left (by simp)
    simp only [List.cons.injEq, Prod.mk.injEq] at h
    obtain ⟨⟨rfl, rfl⟩, rfl⟩ := h
    obtain ⟨h1, h2⟩ := hp
    have h3 := Inv.of_holds I (look ch d) (by
      cases hl : look ch d with
      | nil => exact .inl rfl
      | cons x c' =>
        obtain ⟨d2, b2⟩ := x
        exact .inr ⟨d2, b2, by rw [I.clo d d2 b2 c' hl]⟩) h2
    refine presentR_cons.2 ⟨?_, h3⟩
    rw [I.val d h3]
    split at h1
    · rename_i x hx; rw [hx, h1]
    · exact h1.elim
/-- The values of the guarded operations whose guard holds. -/
def FitsJ (u : Nat → Value) (ch : Ch) (f : Array Value) : Prop := ∀ t, holds f (look ch t) → u t = f.getD t undef
theorem Inv.fitsJ {r f : Array Value} {ch : Ch} (I : Inv r f ch) : FitsJ (fun t => r.getD t undef) ch f := fun t h => I.val t (I.of_holds _ (by
  cases hl : look ch t with
  | nil => exact .inl rfl
  | cons x c' =>
    obtain ⟨d2, b2⟩ := x
    exact .inr ⟨d2, b2, by rw [I.clo t d2 b2 c' hl]⟩) h)
def tailG (P : Program) (w : World) (ds : List (Option Tmp)) (l : List Oper) (Q : Array Value → World → Prop) (f' : Array Value) (ch : Ch) : Tied (Q, l) := ∀ (u : Nat → Value) w', Below w.heap.size w w' → FitsJ u ch f' → seq P ds Q l (junk u ch f') w'
theorem tailG_eq {P : Program} {w : World} {ds : List (Option Tmp)} {l : List Oper} {Q : Array Value → World → Prop} {f' : Array Value} {ch : Ch} : tailG P w ds l Q f' ch = ∀ (u : Nat → Value) w', Below w.heap.size w w' → FitsJ u ch f' → seq P ds Q l (junk u ch f') w' := rfl
theorem WP_tailG {X : Ctx} {P : Program} {w : World} {id n : Nat} {l : List Oper} {Q : Exit → Array Value → World → Prop} {f : Array Value} (N : Nat) (hm : P.follows .mixedOrders = true) (hB : Region.lexTailB .any l.toArray N = true)
    (hok : regOk (l.map (·.dst)) n (l.take N) [] = true) (hok2 : ((l.drop N).all fun o => opOk [] [] o) = true) (hs : f.size = n)
    (h : Now (regC P w (l.map (·.dst)) (tailG P w (l.map (·.dst)) (l.drop N) (Q .normal)) (l.take N) [] f)) : WP X P n (.region id l.toArray true) Q f w := by
  subst hs
  have h1 : regC P w (l.map (·.dst)) (tailG P w (l.map (·.dst)) (l.drop N) (Q .normal)) (l.take N) [] f := h
  refine region_head_tail X (C := fun w' => Below w.heap.size w w') N hm hB (fun o ho c => ?_) (drew_below w) ?_
  · rw [← List.take_append_drop N l] at ho
    rcases List.mem_append.1 ho with ho | ho
    · exact regOk_nd hok o ho c
    · exact opOk_nd (List.all_eq_true.1 hok2 o ho) c
  refine regC_quiet X.ds (w := w) (ds := l.map (·.dst)) (Q := fun f' ch => f'.size = f.size ∧ tailG P w (l.map (·.dst)) (l.drop N) (Q .normal) f' ch) (by simp) (fun f' ch r I hq w' hw' => ?_) (l.take N) [] f f (Inv.start f) hok (regC_size (fun f' ch hf hq => ⟨hf, hq⟩) _ _ _ rfl h1)
  have := hq.2 (fun t => r.getD t undef) w' hw' I.fitsJ
  rw [I.junk] at this
  exact seq_wp X (dsl := l.map (·.dst)) (by simp) (fun f' w' hf' hq => ⟨rfl, hf', hq⟩) _ _ _ (I.size.trans hq.1) hok2 this
end Go.VC
