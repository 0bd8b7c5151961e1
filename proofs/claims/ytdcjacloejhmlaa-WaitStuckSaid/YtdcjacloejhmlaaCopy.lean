/- 'copy' into a slice of one's own. Over any program. -/
import Derived.Test.YtdcjacloejhmlaaOwn3
import Derived.Laws.CopyRow
namespace Go.VC
open Go Go.RowKit
set_option linter.unusedVariables false
set_option linter.unusedSimpArgs false

theorem OPW_copy {P : Program} {w : World} {o : Oper} {f : Array Value} {K' : Value → World → Prop} {d s : Operand} {t e : TypeId} {bytes B g off dLen dCap n c sLen sCap : Nat} {zc xs cs : List Value} {a : Addr}
    (ho : o.op = .call { callee := .builtin .copy, args := #[d, s], argTypes := #[t, t] }) (hi : apI P t = some (e, 1, bytes, zc))
    (hd : evo f d = .slice (some ⟨g, off, none⟩) dLen dCap) (hs : evo f s = .slice (some a) sLen sCap) (hown : OwnK w B e 1 n (.slice (some ⟨g, 0, none⟩) n c) xs)
    (hsrc : ∀ j v, cs[j]? = some v → w.cell? (a.add j) = some v) (hn : cs.length = Nat.min sLen dLen) (hoff : off + cs.length ≤ n) (h1 : ∀ v ∈ cs, v.oneCell' = true)
    (hk : ∀ w', OwnK w' B e 1 n (.slice (some ⟨g, 0, none⟩) n c) (xs.take off ++ cs ++ xs.drop (off + cs.length)) → w.grownBy w' (some g) → w'.heap.size = w.heap.size → Now (K' (.int .i64 cs.length) w')) : OPW P o f w K' := by
  obtain ⟨i, z, h2, h3, h4, h5, h6, h7, h8, _⟩ := apI_spec hi
  obtain ⟨A, c', hv, hl, hr⟩ := hown
  intro X K Q hK
  refine op_lift X (by rw [ho]; intro c h; cases h) ?_
  rcases hr with ⟨hr, _⟩ | ⟨g', cap, cur, hr, hB, hg, hnc, hcm, hcs, htake⟩
  · cases hr
  · cases hr
    rw [Nat.mul_one] at hcs htake hl
    have hrun := run_copy_row (P := P) w t t o.type e g off dLen dCap a sLen sCap cur e cs h2 (by rw [h3]; simp [h5]) hg hn hsrc (by omega) h1
    rw [evo_eq f X.ds] at hd hs
    have hcl : cur.toList.length = cur.size := by simp
    have hlen : (cur.toList.take off ++ cs ++ cur.toList.drop (off + cs.length)).length = cur.size := by simp; omega
    have hrow := setRow_heap w g cur (cur.toList.take off ++ cs ++ cur.toList.drop (off + cs.length)).toArray e (0, 0) hg
    have hsz : (w.setRow g (cur.toList.take off ++ cs ++ cur.toList.drop (off + cs.length)).toArray).heap.size = w.heap.size := size_setRow ..
    have hgr : w.grownBy (w.setRow g (cur.toList.take off ++ cs ++ cur.toList.drop (off + cs.length)).toArray) (some g) :=
      ⟨rfl, rfl, rfl, by rw [size_setRow]; exact Nat.le_refl _, fun k _ hk => setRow_other w g k _ fun e => hk (by rw [e])⟩
    have := hK _ _ (hk _ ⟨_, c, rfl, by rw [List.length_append, List.length_append, List.length_take, List.length_drop]; omega, .inr ⟨g, c, _, rfl, hB, hrow, hnc, hcm, by rw [Nat.mul_one, ← hcs]; simpa using hlen, ?_⟩⟩ hgr hsz)
    · unfold Oper.wp execOp
      simp only [ho, resolve, invoke, builtin, Sem.run_bind, Sem.run_pure, Result.andThen_ok, List.map_toArray, List.map_cons, List.map_nil, hd, hs, hrun]
      exact this
    · rw [Nat.mul_one, ← htake]
      simp only [List.toList_toArray]
      rw [List.take_append, List.take_of_length_le (by rw [List.length_append, List.length_take]; omega), List.length_append, List.length_take, hcl, Nat.min_eq_left (by omega), List.take_take, Nat.min_eq_left (by omega), List.drop_take]
end Go.VC
