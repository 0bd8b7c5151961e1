/- A region's operations, cut in two. Over any program. -/
import Derived.Test.YtdcjacloejhmlaaOwn3
namespace Go.VC
open Go Go.RowKit
set_option linter.unusedVariables false
set_option linter.unusedSimpArgs false

theorem seq_append {P : Program} {ds : List (Option Tmp)} {Q : Array Value → World → Prop} (l2 : List Oper) : ∀ (l1 : List Oper) (f : Array Value) (w : World), seq P ds Q (l1 ++ l2) f w = seq P ds (fun f w => seq P ds Q l2 f w) l1 f w
  | [], f, w => rfl
  | o :: l1, f, w => by
    have ih : ∀ f w, seq P ds Q (l1 ++ l2) f w = seq P ds (fun f w => seq P ds Q l2 f w) l1 f w := seq_append l2 l1
    have ihf : (fun v w' => seq P ds Q (l1 ++ l2) (put o.dst f v) w') = fun v w' => seq P ds (fun f w => seq P ds Q l2 f w) l1 (put o.dst f v) w' := by funext v w'; exact ih _ _
    rw [List.cons_append]
    unfold seq
    rw [ihf]
    simp only [ih]
/-- The first k operations by themselves; what follows them behind a name of a plain type. -/
theorem seq_plain {P : Program} {ds : List (Option Tmp)} {Q : Array Value → World → Prop} {l : List Oper} {f : Array Value} {w : World} (k : Nat) (h : ∀ S : Array Value → World → Prop, S = (fun f w => seq P ds Q (l.drop k) f w) → seq P ds S (l.take k) f w) : seq P ds Q l f w := by
  have := h _ rfl
  rw [← seq_append, List.take_append_drop] at this
  exact this
theorem vc_seqreg {X : Ctx} {P : Program} {n id : Nat} {ops : Array Oper} {Q : Exit → Array Value → World → Prop} {f : Array Value} {w : World} (hp : (ops.toList.all fun o => pureB o.op) = false) : vc X P n (.region id ops false) Q f w = seq P (ops.toList.map (·.dst)) (Q .normal) ops.toList f w := by
  rw [vc_region, hp]; rfl
end Go.VC
