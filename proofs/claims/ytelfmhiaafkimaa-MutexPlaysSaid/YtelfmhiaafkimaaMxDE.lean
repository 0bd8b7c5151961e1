/- One in at a time, the document's whole run. -/
import Derived.Test.YtelfmhiaafkimaaMxD5a
import Derived.Test.YtelfmhiaafkimaaMxD5b
import Derived.Test.YtelfmhiaafkimaaMxD6
import Derived.Test.YtelfmhiaafkimaaMxD7
namespace Go.Proofs.Ytelfmhiaafkimaa
open Go Go.RowKit Go.VC
theorem mutexD_any (A : Option Addr) (n len cap : Nat) (g : Nat → MoveC) (w : World) (hr : RdT w A len 3 (fun i => moveL (g i))) (h1 : 1 ≤ n) (hn : n ≤ 6) (hlen : len ≤ 120) :
    Calls Try.prog 31 #[.int .i64 n, .slice A len cap] w fun e w' => ∃ v, e = .returned v ∧ MxQ n len ((List.range len).map (mcode n g)) (mst n g len) v w' ∧ FreshV w.heap.size v ∧ Below w.heap.size w w' :=
  mutexBut.2 ⟨mxD_ask, takeBut.2 ⟨mxD_takeA, mxD_takeB⟩, mxD_leave, mxD_end⟩ A n len cap g w hr h1 hn hlen
end Go.Proofs.Ytelfmhiaafkimaa
