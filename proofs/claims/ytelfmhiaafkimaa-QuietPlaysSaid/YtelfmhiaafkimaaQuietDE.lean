/- When all rests, the document's whole run. -/
import Derived.Test.YtelfmhiaafkimaaQuietD2
import Derived.Test.YtelfmhiaafkimaaQuietD3
import Derived.Test.YtelfmhiaafkimaaQuietD4
namespace Go.Proofs.Ytelfmhiaafkimaa
open Go Go.RowKit Go.VC
theorem calm_any (A : Option Addr) (n len cap : Nat) (g : Nat → CalmC) (w : World) (hr : RdT w A len 3 (fun i => calmL (g i))) (h1 : 1 ≤ n) (hn : n ≤ 6) (hlen : len ≤ 120) :
    Calls Try.prog 22 #[.int .i64 n, .slice A len cap] w fun e w' => ∃ v, e = .returned v ∧ QuietQ n len ((List.range len).map (qcode n g)) (qst n g len) v w' ∧ NewS w.heap.size v ∧ Below w.heap.size w w' :=
  calmBut.2 ⟨calm_rest, calm_moves, calm_end⟩ A n len cap g w hr h1 hn hlen
end Go.Proofs.Ytelfmhiaafkimaa
