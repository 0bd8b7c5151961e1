/- 'm[x]' of a map of one's own. Over any program. -/
import Derived.Test.YtdcjacloejhmlaaMapI
import Derived.Test.YtdcjacloejhmlaaRange
namespace Go.VC
open Go Go.RowKit Go.WideShapes Go.ChangeMaps Go.MapKept
set_option linter.unusedVariables false
set_option linter.unusedSimpArgs false

theorem OPW_lookup0 {P : Program} {k e : TypeId} {w : World} {b n : Nat} {m : Int → Option Int} {o : Oper} {f : Array Value} {K' : Value → World → Prop} {t : TypeId} {mo xo : Operand} {x : Int} (ho : o.op = .lookup t mo xo false) (ht : mapO P t = some (k, e)) (hki : kOf P k = .i .i64) (hei : kOf P e = .i .i64) (hz : zeroI P e = true)
    (hm : evo f mo = .map (some b)) (hx : evo f xo = .int .i64 x) (fx : fits .i64 x) (hM : MapI P k e w b n m) (hk : Now (K' (.int .i64 ((m x).getD 0)) w)) : OPW P o f w K' := by
  intro X K Q hK
  refine op_lift X (by rw [ho]; intro c h; cases h) ?_
  obtain ⟨D, hown, hD⟩ := hM
  obtain ⟨c, hrun, hat, _⟩ := hown.lookup_int (Maps.int_keyed (kOf_i hki)) (mapO_of ht) (kOf_i hei) (zeroI_run hz w) (Maps.keyOf_int_mk (kOf_i hki) (wf_of fx))
  obtain ⟨_, h2⟩ := hD x fx
  rw [h2] at hat
  simp only [DataW.lit.injEq, Lit.int.injEq, true_and] at hat
  rw [← hat] at hrun
  have := hK _ _ hk
  rw [evo_eq f X.ds] at hm hx
  unfold Oper.wp execOp
  simp only [ho, hm, hx, hrun, Sem.run_bind, Sem.run_pure, Result.andThen_ok]
  exact this
theorem MapI.agree {P : Program} {k e : TypeId} {w w' : World} {b n : Nat} {m : Int → Option Int} {X : Nat → Prop} (h : MapI P k e w b n m) (hA : Agree X w w') (hb : ¬ X b) : MapI P k e w' b n m := by
  have hlt := h.lt
  obtain ⟨D, ⟨es, clock, hc, r⟩, hm⟩ := h
  exact ⟨D, ⟨es, clock, by rw [hA.block b hlt hb]; exact hc, r⟩, hm⟩
end Go.VC
