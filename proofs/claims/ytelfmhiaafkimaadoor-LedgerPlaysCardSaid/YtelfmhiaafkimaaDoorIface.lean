/- A value as an interface. -/
import Derived.Test.YtelfmhiaafkimaaDoorOwn3
namespace Go.VC
open Go Go.RowKit
set_option linter.unusedSimpArgs false
set_option linter.unusedVariables false
def notIfB (P : Program) (t : TypeId) : Bool := match P.underlying t with | some (.interface _) => false | some _ => true | none => false
theorem OPW_mkI {P : Program} {w : World} {o : Oper} {f : Array Value} {K' : Value → World → Prop} {t : TypeId} {x : Operand} (ho : o.op = .makeInterface t x) (ht : notIfB P t = true) (hk : Now (K' (.iface t (evo f x)) w)) : OPW P o f w K' := by
  intro X K Q hK
  refine op_lift X (by rw [ho]; intro c h; cases h) ?_
  have := hK _ _ hk
  have hr : (execOp (Act.mk f X.ds).eval o).run P w = .ok (.value (.iface t (evo f x))) w := by
    rw [← evo_eq]
    unfold notIfB at ht
    simp only [execOp, ho, Instr.makeInterface]
    cases hu : P.underlying t with
    | none => rw [hu] at ht; cases ht
    | some d =>
      rw [hu] at ht
      simp only [Sem.run_bind, run_underlying hu, Result.andThen_ok]
      cases d <;> first | rfl | cases ht
  unfold Oper.wp
  rw [hr]
  exact this
end Go.VC
