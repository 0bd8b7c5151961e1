/- A map's literal: its entries are laid. Over any program. -/
import Derived.Test.YtelfmhiaafkimaaMapV
namespace Go.VC
open Go Go.RowKit
set_option linter.unusedSimpArgs false
set_option linter.unusedVariables false
theorem OPW_insV {P : Program} {k : TypeId} {α : Type} {E : KE P k α} {w : World} {b n : Nat} {m : α → Option Value} {t : TypeId} {o : Oper} {f : Array Value} {K' : Value → World → Prop} {mo xo co : Operand} {x : α} {c : Value} (hM : MapV P E w b n m) (ho : o.op = .insert t mo xo co) (ht : mapKB P t k = true)
    (hm : evo f mo = .map (some b)) (hx : evo f xo = E.K x) (hc : evo f co = c) (fx : E.ok x) (hn : n < maxLen)
    (hk : ∀ w', MapV P E w' b (if (m x).isSome = true then n else n + 1) (updV m x c) → w.mapTurned w' b → Now (K' undef w')) : OPW P o f w K' := by
  obtain ⟨e, ht⟩ := mapKB_of ht
  intro X K Q hK
  refine op_lift X (by rw [ho]; intro c h; cases h) ?_
  obtain ⟨w', hrun, r1, r2⟩ := hM.store ht hn fx c
  have := hK _ _ (hk w' r1 r2)
  rw [evo_eq f X.ds] at hm hx hc
  unfold Oper.wp execOp
  simp only [ho, hm, hx, hc, hrun, Sem.run_bind, Sem.run_pure, Result.andThen_ok]
  exact this
end Go.VC
