/- A copy that comes in, read off the form's own reading. -/
import Derived.Test.YtdcjacloejhmlaaDeep
import Derived.Test.YtdcjacloejhmlaaRd3
import Derived.Test.YtdcjacloejhmlaaFa
namespace Go.VC
open Go Go.RowKit Go.ChangeShapes Go.WideShapes Go.Deep
set_option linter.unusedVariables false
set_option linter.unusedSimpArgs false

section
variable {P : Program} {w : World}
/-- A struct of three numbers. -/
theorem WfC.three {e i3 : TypeId} {k : IntKind} {fs : Array Field} {n : Nat} {cs : List Value} (he : P.underlying e = some (.struct fs)) (hC : P.cellsOf e = 3) {j3 : TypeId} (hf : fs.toList.map (fun f => (f.type, f.offset)) = [(i3, 0), (i3, 1), (j3, 2)])
    (h3 : P.underlying i3 = some (.int .i64)) (c3 : P.cellsOf i3 = 1) (h4 : P.underlying j3 = some (.int .i64)) (c4 : P.cellsOf j3 = 1) (h : WfC P w (n + 2) e cs) : ∃ x y z, cs = [.int .i64 x, .int .i64 y, .int .i64 z] ∧ fits .i64 x ∧ fits .i64 y ∧ fits .i64 z := by
  unfold WfC at h
  rw [he] at h
  obtain ⟨hcl, hfl⟩ := h
  rw [hC] at hcl
  have hfs : fs.toList.length = 3 := by have := congrArg List.length hf; simpa using this
  match hq : fs.toList, hfs with
  | [f0, f1, f2], _ =>
    rw [hq] at hf
    simp only [List.map_cons, List.map_nil, List.cons.injEq, Prod.mk.injEq, and_true] at hf
    obtain ⟨⟨t0, o0⟩, ⟨t1, o1⟩, t2, o2⟩ := hf
    match cs, hcl with
    | [v0, v1, v2], _ =>
      have g : ∀ (k : Nat) (f : Field), fs.toList[k]? = some f → WfC P w (n + 1) f.type (([v0, v1, v2].drop f.offset).take (P.cellsOf f.type)) := fun k f hk => hfl k f (by rw [← hk]; simp)
      have g0 := g 0 f0 (by rw [hq]; rfl)
      have g1 := g 1 f1 (by rw [hq]; rfl)
      have g2 := g 2 f2 (by rw [hq]; rfl)
      rw [t0, o0, c3] at g0
      rw [t1, o1, c3] at g1
      rw [t2, o2, c4] at g2
      unfold WfC at g0 g1 g2
      rw [h3] at g0 g1
      rw [h4] at g2
      obtain ⟨x, hx, fx⟩ := g0
      obtain ⟨y, hy, fy⟩ := g1
      obtain ⟨z, hz, fz⟩ := g2
      simp at hx hy hz
      subst hx; subst hy; subst hz
      exact ⟨x, y, z, rfl, fx, fy, fz⟩

/-- A slice of structs of three numbers. -/
theorem WfC.threes {t e i3 : TypeId} {fs : Array Field} {n : Nat} {cs : List Value} (ht : P.underlying t = some (.slice e)) (he : P.underlying e = some (.struct fs)) (hC : P.cellsOf e = 3) (hf : fs.toList.map (fun f => (f.type, f.offset)) = [(i3, 0), (i3, 1), (i3, 2)])
    (h3 : P.underlying i3 = some (.int .i64)) (c3 : P.cellsOf i3 = 1) (h : WfC P w (n + 3) t cs) : ∃ A len c x y z, cs = [.slice A len c] ∧ len ≤ c ∧ c ≤ maxLen ∧ Rd3 w A len x y z := by
  unfold WfC at h
  rw [ht] at h
  obtain ⟨A, len, cap, hcs, hl, hm, hi⟩ := h
  have one : ∀ i, i < len → ∃ a x y z, A = some a ∧ w.cell? (a.add (i * 3)) = some (.int .i64 x) ∧ w.cell? (a.add (i * 3 + 1)) = some (.int .i64 y) ∧ w.cell? (a.add (i * 3 + 2)) = some (.int .i64 z) ∧ fits .i64 x ∧ fits .i64 y ∧ fits .i64 z := by
    intro i hil
    obtain ⟨a, cs', hA, hcl, hat, hw⟩ := hi i hil
    obtain ⟨x, y, z, hcs', fx, fy, fz⟩ := WfC.three (k := .i64) he hC hf h3 c3 h3 c3 hw
    rw [hC] at hat
    have k0 := hat 0 (by omega)
    have k1 := hat 1 (by omega)
    have k2 := hat 2 (by omega)
    rw [hcs'] at k0 k1 k2
    exact ⟨a, x, y, z, hA, k0, k1, k2, fx, fy, fz⟩
  by_cases h0 : 0 < len
  · obtain ⟨a, _, _, _, rfl, hc0, _⟩ := one 0 h0
    rw [Nat.zero_mul] at hc0
    have ha : a.add 0 = a := by simp [Addr.add]
    rw [ha] at hc0
    obtain ⟨b, o, rfl, hb⟩ := addr_of_cell hc0
    classical
    have one' : ∀ i, ∃ q : Int × Int × Int, i < len → w.cell? ⟨b, o + i * 3, none⟩ = some (.int .i64 q.1) ∧ w.cell? ⟨b, o + i * 3 + 1, none⟩ = some (.int .i64 q.2.1) ∧ w.cell? ⟨b, o + i * 3 + 2, none⟩ = some (.int .i64 q.2.2) ∧ fits .i64 q.1 ∧ fits .i64 q.2.1 ∧ fits .i64 q.2.2 := by
      intro i
      by_cases hil : i < len
      · obtain ⟨a, x, y, z, e, k0, k1, k2, fx, fy, fz⟩ := one i hil
        cases e
        rw [add_mk] at k0 k1 k2
        exact ⟨(x, y, z), fun _ => ⟨k0, by rw [← k1, Nat.add_assoc], by rw [← k2, Nat.add_assoc], fx, fy, fz⟩⟩
      · exact ⟨(0, 0, 0), fun h => absurd h hil⟩
    obtain ⟨q, hq⟩ := Classical.axiomOfChoice one'
    exact ⟨_, len, cap, fun i => (q i).1, fun i => (q i).2.1, fun i => (q i).2.2, hcs, hl, hm, fun _ => ⟨b, o, rfl, hb, hq⟩⟩
  · exact ⟨A, len, cap, fun _ => 0, fun _ => 0, fun _ => 0, hcs, hl, hm, fun h => absurd h h0⟩

/-- A copy: a slice of numbers, a stamp, two slices of dots. -/
theorem WfC.copy {t a b c d i3 i2 : TypeId} {fs fb fd : Array Field} {n : Nat} {cs : List Value} (ht : P.underlying t = some (.struct fs)) (hC : P.cellsOf t = 6) (hf : fs.toList.map (fun f => (f.type, f.offset)) = [(a, 0), (b, 1), (c, 4), (c, 5)])
    (ha : P.underlying a = some (.slice i2)) (hb : P.underlying b = some (.struct fb)) (hc : P.underlying c = some (.slice d)) (hd : P.underlying d = some (.struct fd)) (sa : P.cellsOf a = 1) (sb : P.cellsOf b = 3) (sc : P.cellsOf c = 1) (sd : P.cellsOf d = 3)
    (hfb : fb.toList.map (fun f => (f.type, f.offset)) = [(i3, 0), (i3, 1), (i2, 2)]) (hfd : fd.toList.map (fun f => (f.type, f.offset)) = [(i3, 0), (i3, 1), (i3, 2)])
    (h3 : P.underlying i3 = some (.int .i64)) (c3 : P.cellsOf i3 = 1) (h2 : P.underlying i2 = some (.int .i64)) (c2 : P.cellsOf i2 = 1) (h : WfC P w (n + 4) t cs) :
    ∃ (A0 A1 A2 : Option Addr) (c0 c1 c2 n1 n2 : Nat) (l : List Int) (lN lW lV : Int) (x1 y1 z1 x2 y2 z2 : Nat → Int), cs = [.slice A0 l.length c0, .int .i64 lN, .int .i64 lW, .int .i64 lV, .slice A1 n1 c1, .slice A2 n2 c2] ∧
      Rd w A0 (l.map (Value.int .i64)) ∧ l.length ≤ 9223372036854775807 ∧ (∀ x ∈ l, fits .i64 x) ∧ fits .i64 lN ∧ fits .i64 lW ∧ fits .i64 lV ∧ n1 ≤ c1 ∧ c1 ≤ maxLen ∧ Rd3 w A1 n1 x1 y1 z1 ∧ n2 ≤ c2 ∧ c2 ≤ maxLen ∧ Rd3 w A2 n2 x2 y2 z2 := by
  unfold WfC at h
  rw [ht] at h
  obtain ⟨hcl, hfl⟩ := h
  rw [hC] at hcl
  have hfs : fs.toList.length = 4 := by have := congrArg List.length hf; simpa using this
  match hq : fs.toList, hfs with
  | [f0, f1, f2, f3], _ =>
    rw [hq] at hf
    simp only [List.map_cons, List.map_nil, List.cons.injEq, Prod.mk.injEq, and_true] at hf
    obtain ⟨⟨t0, o0⟩, ⟨t1, o1⟩, ⟨t2, o2⟩, t3, o3⟩ := hf
    match cs, hcl with
    | [v0, v1, v2, v3, v4, v5], _ =>
      have g : ∀ (k : Nat) (f : Field), fs.toList[k]? = some f → WfC P w (n + 3) f.type (([v0, v1, v2, v3, v4, v5].drop f.offset).take (P.cellsOf f.type)) := fun k f hk => hfl k f (by rw [← hk]; simp)
      have g0 := g 0 f0 (by rw [hq]; rfl)
      have g1 := g 1 f1 (by rw [hq]; rfl)
      have g2 := g 2 f2 (by rw [hq]; rfl)
      have g3 := g 3 f3 (by rw [hq]; rfl)
      rw [t0, o0, sa] at g0
      rw [t1, o1, sb] at g1
      rw [t2, o2, sc] at g2
      rw [t3, o3, sc] at g3
      obtain ⟨A0, c0, l, e0, hl0, hm0, hr0, hfit⟩ := WfC.nums (n := n + 1) ha h2 c2 g0
      obtain ⟨lN, lW, lV, e1, q1, q2, q3⟩ := WfC.three (k := .i64) (n := n + 1) hb sb hfb h3 c3 h2 c2 g1
      obtain ⟨A1, n1, c1, x1, y1, z1, e2, hl1, hm1, hr1⟩ := WfC.threes (n := n) hc hd sd hfd h3 c3 g2
      obtain ⟨A2, n2, c2, x2, y2, z2, e3, hl2, hm2, hr2⟩ := WfC.threes (n := n) hc hd sd hfd h3 c3 g3
      simp at e0 e1 e2 e3
      obtain ⟨e11, e12, e13⟩ := e1
      subst e0; subst e2; subst e3; subst e11; subst e12; subst e13
      exact ⟨A0, A1, A2, c0, c1, c2, n1, n2, l, lN, lW, lV, x1, y1, z1, x2, y2, z2, rfl, hr0, by unfold maxLen at hm0; omega, hfit, q1, q2, q3, hl1, hm1, hr1, hl2, hm2, hr2⟩
end
end Go.VC
namespace Go.Proofs.Ytdcjacloejhmlaa
open Go Go.RowKit Go.VC
set_option maxRecDepth 100000 in
theorem copy_of {w : World} {cs : Array Value} (hz : cs.size = Try.prog.cellsOf 36) (h : WfC Try.prog w 6 36 cs.toList) :
    ∃ (A0 A1 A2 : Option Addr) (c0 c1 c2 n1 n2 : Nat) (l : List Int) (lN lW lV : Int) (x1 y1 z1 x2 y2 z2 : Nat → Int), cs = #[.slice A0 l.length c0, .int .i64 lN, .int .i64 lW, .int .i64 lV, .slice A1 n1 c1, .slice A2 n2 c2] ∧
      Rd w A0 (l.map (Value.int .i64)) ∧ l.length ≤ 9223372036854775807 ∧ (∀ x ∈ l, fits .i64 x) ∧ fits .i64 lN ∧ fits .i64 lW ∧ fits .i64 lV ∧ n1 ≤ c1 ∧ c1 ≤ maxLen ∧ Rd3 w A1 n1 x1 y1 z1 ∧ n2 ≤ c2 ∧ c2 ≤ maxLen ∧ Rd3 w A2 n2 x2 y2 z2 := by
  obtain ⟨A0, A1, A2, c0, c1, c2, n1, n2, l, lN, lW, lV, x1, y1, z1, x2, y2, z2, e, rest⟩ := WfC.copy (n := 2) Try.underlying36 (by kernel_rfl) (by kernel_rfl) Try.underlying31 Try.underlying33 Try.underlying34 Try.underlying110 (by kernel_rfl) (by kernel_rfl) (by kernel_rfl) (by kernel_rfl) (by kernel_rfl) (by kernel_rfl) Try.underlying3 (by kernel_rfl) Try.underlying2 (by kernel_rfl) h
  exact ⟨A0, A1, A2, c0, c1, c2, n1, n2, l, lN, lW, lV, x1, y1, z1, x2, y2, z2, by rw [← e], rest⟩
end Go.Proofs.Ytdcjacloejhmlaa
