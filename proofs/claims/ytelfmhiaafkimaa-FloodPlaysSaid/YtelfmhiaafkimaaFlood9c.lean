/- What some who crash have said: the document's run, joined. -/
import Derived.Test.YtelfmhiaafkimaaFlood9a
import Derived.Test.YtelfmhiaafkimaaFlood9b
namespace Go.Proofs.Ytelfmhiaafkimaa
open Go Go.RowKit Go.VC
set_option linter.unusedSimpArgs false
set_option linter.unusedVariables false
theorem floodR_any (A0 : Option Addr) (n c0 R : Nat) (A : Option Addr) (len c : Nat) (val : Nat → Int) (g : Nat → CrashC) (w : World) (hv : RdT w A0 n 1 (fun i => [.int .i64 (val i)])) (hr : RdT w A len 3 (fun i => crL (g i))) (ht : ∀ i, (g i).to < 4294967296) (h1 : 1 ≤ n) (hn : n ≤ 6) (hR : R ≤ 6) (hl : len ≤ 6) :
    Calls Try.prog 35 #[.slice A0 n c0, .int .i64 R, .slice A len c] w fun e w' => ∃ Ar ca, e = .returned (.slice Ar n ca) ∧ Rd w' Ar ((List.range n).map fun j => .int .i64 (leastF val (knB n (crs g len) R j) (val j) n)) ∧ Below w.heap.size w w' :=
  floodBut.2 ⟨floodR_in, floodR_end⟩ A0 n c0 R A len c val g w hv hr ht h1 hn hR hl
end Go.Proofs.Ytelfmhiaafkimaa
