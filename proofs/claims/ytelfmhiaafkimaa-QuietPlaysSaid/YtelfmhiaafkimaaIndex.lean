/- 'a[i]' of an array value. Over any program. -/
import Derived.Test.YtelfmhiaafkimaaOwn3
namespace Go.VC
open Go Go.RowKit
set_option linter.unusedVariables false
set_option linter.unusedSimpArgs false

def arrO (P : Program) (t : TypeId) : Option (Nat × TypeId) := match P.underlying t with | some (.array n e) => some (n, e) | _ => none
theorem OPW_index {P : Program} {w : World} {o : Oper} {f : Array Value} {K' : Value → World → Prop} {t e : TypeId} {x ix : Operand} {cs : Array Value} {k : IntKind} {N i : Nat} {v : Value} (ho : o.op = .index t x ix) (ht : arrO P t = some (N, e)) (hz : szo P e = some 1) (ha : isAggB P e = false) (hu : knownB P e = true)
    (hx : evo f x = .agg cs) (hi : evo f ix = .int k (i : Int)) (hN : i < N) (hv : cs[i]? = some v) (hk : Now (K' v w)) : OPW P o f w K' := by
  intro X K Q hK
  refine op_lift X (by rw [ho]; intro c h; cases h) ?_
  have ht' : P.underlying t = some (.array N e) := by
    unfold arrO at ht
    split at ht
    · simp only [Option.some.injEq, Prod.mk.injEq] at ht; obtain ⟨rfl, rfl⟩ := ht; assumption
    · cases ht
  have hp := run_part_plain (P := P) (off := i) ha hu hv w
  have := hK _ _ hk
  rw [evo_eq f X.ds] at hx hi
  have hr : (execOp (Act.mk f X.ds).eval o).run P w = .ok (.value v) w := by
    simp only [execOp, ho, hx, hi, Instr.index, asIntOf, Sem.run_bind, Sem.run_pure, Result.andThen_ok, run_underlying ht', szo_run hz]
    rw [if_pos ⟨by omega, by omega⟩]
    simp [Result.andThen, szo_run hz, hp]
  unfold Oper.wp
  rw [hr]
  exact this
end Go.VC
