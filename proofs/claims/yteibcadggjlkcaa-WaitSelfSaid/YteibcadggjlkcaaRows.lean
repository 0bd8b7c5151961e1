/-
  No cell of these rows narrows 'for every input' (looked for: loops, veiled, ifaces, maps, wideKeys, modest, calm, conditions, laid).
  DERIVED. THE GIVEN ROWS OF THIS SEAT. 11 by the template 'for every input the law returns true; each argument reads behind the call as it read before'; 0 by the template 'total and deterministic' (their statements: YteibcadggjlkcaaTotals.lean).
  GIVEN WITH THE SEED: the statements are not yours to turn. If you find one false, say at which input.
  Laid BY PROGRAM, IN A SANDBOX (cutbox-rows.mjs): the forced cells as the released guide's own fill.sh prints them over the translation f5076e0697638d5b… (all of the seat's roots in one cut). By AI agents, Wed Nov 11 2026. No macro, syntax, notation, axiom, sorry.
-/
import Derived.Test.YteibcadggjlkcaaChecked
import GoSem.Claim
import GoSem.ClaimJoined
import GoSem.ClaimMapViews
import Derived.JoinedTies
import Derived.KernelRfl
namespace Go.Proofs.Yteibcadggjlkcaa
/- THE CELL 'sum', in the pinned program and in every row, IS THE sha256 OF THE DUMP (.gsa) THAT YteibcadggjlkcaaProg.lean LOADS. Nothing in Lean hashes anything: it is a label: what it is worth is what the hold of that sum in a sandbox is worth. -/
noncomputable def Try.pinned : Pinned := { name := "yteibcadggjlkcaa", sum := "f5076e0697638d5b985d04b66717ca73726d6f0c6519e5acefa6f4b5ee3cfb94", checked := Try.checked }
namespace Rows
def none {H : Type} : Left H := { results := [], args := [] }

/-- 'folkmootlaw.KingPlays': WHATEVER THE INPUT: true; the input reads as it did. -/
def kingPlaysSpec : ChangeSpec := { name := "kingPlays", fn := fun _ => fun
  | [d1, d2, d3, d4, d5] => { results := [.lit (.bool true)], args := [d1, d2, d3, d4, d5] }
  | _ => none }
def kingPlaysRow : OpenClaim := { program := "yteibcadggjlkcaa", sum := "f5076e0697638d5b985d04b66717ca73726d6f0c6519e5acefa6f4b5ee3cfb94", func := "folkmoot/folkmootlaw.KingPlays", spec := "kingPlays", plainKeys := false, apart := false }
def KingPlaysSaid : Prop := kingPlaysRow.holds Try.pinned (OpenSpec.ofChange kingPlaysSpec)

/-- ITS FALSE NEIGHBOUR: 'it returns false'. Refute it at one input. -/
def kingPlaysWrong : ChangeSpec := { name := "kingPlays", fn := fun _ => fun
  | [d1, d2, d3, d4, d5] => { results := [.lit (.bool false)], args := [d1, d2, d3, d4, d5] }
  | _ => none }
def KingPlaysWrongFalsely : Prop := kingPlaysRow.holds Try.pinned (OpenSpec.ofChange kingPlaysWrong)

/-- 'folkmootlaw.WaitSelf': WHATEVER THE INPUT: true; the input reads as it did. -/
def waitSelfSpec : ChangeSpec := { name := "waitSelf", fn := fun _ => fun
  | [d1, d2, d3] => { results := [.lit (.bool true)], args := [d1, d2, d3] }
  | _ => none }
def waitSelfRow : OpenClaim := { program := "yteibcadggjlkcaa", sum := "f5076e0697638d5b985d04b66717ca73726d6f0c6519e5acefa6f4b5ee3cfb94", func := "folkmoot/folkmootlaw.WaitSelf", spec := "waitSelf", unfollowed := true, recurses := true, plainKeys := false, apart := false }
def WaitSelfSaid : Prop := waitSelfRow.holds Try.pinned (OpenSpec.ofChange waitSelfSpec)

/-- ITS FALSE NEIGHBOUR: 'it returns false'. Refute it at one input. -/
def waitSelfWrong : ChangeSpec := { name := "waitSelf", fn := fun _ => fun
  | [d1, d2, d3] => { results := [.lit (.bool false)], args := [d1, d2, d3] }
  | _ => none }
def WaitSelfWrongFalsely : Prop := waitSelfRow.holds Try.pinned (OpenSpec.ofChange waitSelfWrong)

/-- 'folkmootlaw.SerialOrders': WHATEVER THE INPUT: true; the input reads as it did. -/
def serialOrdersSpec : ChangeSpec := { name := "serialOrders", fn := fun _ => fun
  | [d] => { results := [.lit (.bool true)], args := [d] }
  | _ => none }
def serialOrdersRow : OpenClaim := { program := "yteibcadggjlkcaa", sum := "f5076e0697638d5b985d04b66717ca73726d6f0c6519e5acefa6f4b5ee3cfb94", func := "folkmoot/folkmootlaw.SerialOrders", spec := "serialOrders", plainKeys := false, apart := false }
def SerialOrdersSaid : Prop := serialOrdersRow.holds Try.pinned (OpenSpec.ofChange serialOrdersSpec)

/-- ITS FALSE NEIGHBOUR: 'it returns false'. Refute it at one input. -/
def serialOrdersWrong : ChangeSpec := { name := "serialOrders", fn := fun _ => fun
  | [d] => { results := [.lit (.bool false)], args := [d] }
  | _ => none }
def SerialOrdersWrongFalsely : Prop := serialOrdersRow.holds Try.pinned (OpenSpec.ofChange serialOrdersWrong)

/-- 'folkmootlaw.ClocksVectors': WHATEVER THE INPUT: true; the input reads as it did. -/
def clocksVectorsSpec : ChangeSpec := { name := "clocksVectors", fn := fun _ => fun
  | [d1, d2] => { results := [.lit (.bool true)], args := [d1, d2] }
  | _ => none }
def clocksVectorsRow : OpenClaim := { program := "yteibcadggjlkcaa", sum := "f5076e0697638d5b985d04b66717ca73726d6f0c6519e5acefa6f4b5ee3cfb94", func := "folkmoot/folkmootlaw.ClocksVectors", spec := "clocksVectors", unfollowed := true, recurses := true, plainKeys := false, apart := false }
def ClocksVectorsSaid : Prop := clocksVectorsRow.holds Try.pinned (OpenSpec.ofChange clocksVectorsSpec)

/-- ITS FALSE NEIGHBOUR: 'it returns false'. Refute it at one input. -/
def clocksVectorsWrong : ChangeSpec := { name := "clocksVectors", fn := fun _ => fun
  | [d1, d2] => { results := [.lit (.bool false)], args := [d1, d2] }
  | _ => none }
def ClocksVectorsWrongFalsely : Prop := clocksVectorsRow.holds Try.pinned (OpenSpec.ofChange clocksVectorsWrong)

/-- 'folkmootlaw.PaxosPlays': WHATEVER THE INPUT: true; the input reads as it did. -/
def paxosPlaysSpec : ChangeSpec := { name := "paxosPlays", fn := fun _ => fun
  | [d1, d2] => { results := [.lit (.bool true)], args := [d1, d2] }
  | _ => none }
def paxosPlaysRow : OpenClaim := { program := "yteibcadggjlkcaa", sum := "f5076e0697638d5b985d04b66717ca73726d6f0c6519e5acefa6f4b5ee3cfb94", func := "folkmoot/folkmootlaw.PaxosPlays", spec := "paxosPlays", plainKeys := false, apart := false }
def PaxosPlaysSaid : Prop := paxosPlaysRow.holds Try.pinned (OpenSpec.ofChange paxosPlaysSpec)

/-- ITS FALSE NEIGHBOUR: 'it returns false'. Refute it at one input. -/
def paxosPlaysWrong : ChangeSpec := { name := "paxosPlays", fn := fun _ => fun
  | [d1, d2] => { results := [.lit (.bool false)], args := [d1, d2] }
  | _ => none }
def PaxosPlaysWrongFalsely : Prop := paxosPlaysRow.holds Try.pinned (OpenSpec.ofChange paxosPlaysWrong)

/-- 'folkmootlaw.MergeChecks': WHATEVER THE INPUT: true; the input reads as it did. -/
def mergeChecksSpec : ChangeSpec := { name := "mergeChecks", fn := fun _ => fun
  | [d1, d2] => { results := [.lit (.bool true)], args := [d1, d2] }
  | _ => none }
def mergeChecksRow : OpenClaim := { program := "yteibcadggjlkcaa", sum := "f5076e0697638d5b985d04b66717ca73726d6f0c6519e5acefa6f4b5ee3cfb94", func := "folkmoot/folkmootlaw.MergeChecks", spec := "mergeChecks", unfollowed := true, recurses := true, plainKeys := false, apart := false }
def MergeChecksSaid : Prop := mergeChecksRow.holds Try.pinned (OpenSpec.ofChange mergeChecksSpec)

/-- ITS FALSE NEIGHBOUR: 'it returns false'. Refute it at one input. -/
def mergeChecksWrong : ChangeSpec := { name := "mergeChecks", fn := fun _ => fun
  | [d1, d2] => { results := [.lit (.bool false)], args := [d1, d2] }
  | _ => none }
def MergeChecksWrongFalsely : Prop := mergeChecksRow.holds Try.pinned (OpenSpec.ofChange mergeChecksWrong)

/-- 'folkmootlaw.LinearTells': WHATEVER THE INPUT: true; the input reads as it did. -/
def linearTellsSpec : ChangeSpec := { name := "linearTells", fn := fun _ => fun
  | [d] => { results := [.lit (.bool true)], args := [d] }
  | _ => none }
def linearTellsRow : OpenClaim := { program := "yteibcadggjlkcaa", sum := "f5076e0697638d5b985d04b66717ca73726d6f0c6519e5acefa6f4b5ee3cfb94", func := "folkmoot/folkmootlaw.LinearTells", spec := "linearTells", recurses := true, plainKeys := false, apart := false }
def LinearTellsSaid : Prop := linearTellsRow.holds Try.pinned (OpenSpec.ofChange linearTellsSpec)

/-- ITS FALSE NEIGHBOUR: 'it returns false'. Refute it at one input. -/
def linearTellsWrong : ChangeSpec := { name := "linearTells", fn := fun _ => fun
  | [d] => { results := [.lit (.bool false)], args := [d] }
  | _ => none }
def LinearTellsWrongFalsely : Prop := linearTellsRow.holds Try.pinned (OpenSpec.ofChange linearTellsWrong)

/-- 'folkmootlaw.ClocksBefores': WHATEVER THE INPUT: true; the input reads as it did. -/
def clocksBeforesSpec : ChangeSpec := { name := "clocksBefores", fn := fun _ => fun
  | [d1, d2, d3, d4] => { results := [.lit (.bool true)], args := [d1, d2, d3, d4] }
  | _ => none }
def clocksBeforesRow : OpenClaim := { program := "yteibcadggjlkcaa", sum := "f5076e0697638d5b985d04b66717ca73726d6f0c6519e5acefa6f4b5ee3cfb94", func := "folkmoot/folkmootlaw.ClocksBefores", spec := "clocksBefores", unfollowed := true, recurses := true, plainKeys := false, apart := false }
def ClocksBeforesSaid : Prop := clocksBeforesRow.holds Try.pinned (OpenSpec.ofChange clocksBeforesSpec)

/-- ITS FALSE NEIGHBOUR: 'it returns false'. Refute it at one input. -/
def clocksBeforesWrong : ChangeSpec := { name := "clocksBefores", fn := fun _ => fun
  | [d1, d2, d3, d4] => { results := [.lit (.bool false)], args := [d1, d2, d3, d4] }
  | _ => none }
def ClocksBeforesWrongFalsely : Prop := clocksBeforesRow.holds Try.pinned (OpenSpec.ofChange clocksBeforesWrong)

/-- 'folkmootlaw.SerialReads': WHATEVER THE INPUT: true; the input reads as it did. -/
def serialReadsSpec : ChangeSpec := { name := "serialReads", fn := fun _ => fun
  | [d] => { results := [.lit (.bool true)], args := [d] }
  | _ => none }
def serialReadsRow : OpenClaim := { program := "yteibcadggjlkcaa", sum := "f5076e0697638d5b985d04b66717ca73726d6f0c6519e5acefa6f4b5ee3cfb94", func := "folkmoot/folkmootlaw.SerialReads", spec := "serialReads", plainKeys := false, apart := false }
def SerialReadsSaid : Prop := serialReadsRow.holds Try.pinned (OpenSpec.ofChange serialReadsSpec)

/-- ITS FALSE NEIGHBOUR: 'it returns false'. Refute it at one input. -/
def serialReadsWrong : ChangeSpec := { name := "serialReads", fn := fun _ => fun
  | [d] => { results := [.lit (.bool false)], args := [d] }
  | _ => none }
def SerialReadsWrongFalsely : Prop := serialReadsRow.holds Try.pinned (OpenSpec.ofChange serialReadsWrong)

/-- 'folkmootlaw.QuietPlays': WHATEVER THE INPUT: true; the input reads as it did. -/
def quietPlaysSpec : ChangeSpec := { name := "quietPlays", fn := fun _ => fun
  | [d1, d2] => { results := [.lit (.bool true)], args := [d1, d2] }
  | _ => none }
def quietPlaysRow : OpenClaim := { program := "yteibcadggjlkcaa", sum := "f5076e0697638d5b985d04b66717ca73726d6f0c6519e5acefa6f4b5ee3cfb94", func := "folkmoot/folkmootlaw.QuietPlays", spec := "quietPlays", unfollowed := true, recurses := true, plainKeys := false, apart := false }
def QuietPlaysSaid : Prop := quietPlaysRow.holds Try.pinned (OpenSpec.ofChange quietPlaysSpec)

/-- ITS FALSE NEIGHBOUR: 'it returns false'. Refute it at one input. -/
def quietPlaysWrong : ChangeSpec := { name := "quietPlays", fn := fun _ => fun
  | [d1, d2] => { results := [.lit (.bool false)], args := [d1, d2] }
  | _ => none }
def QuietPlaysWrongFalsely : Prop := quietPlaysRow.holds Try.pinned (OpenSpec.ofChange quietPlaysWrong)

/-- 'folkmootlaw.CutsWholes': WHATEVER THE INPUT: true; the input reads as it did. -/
def cutsWholesSpec : ChangeSpec := { name := "cutsWholes", fn := fun _ => fun
  | [d1, d2, d3] => { results := [.lit (.bool true)], args := [d1, d2, d3] }
  | _ => none }
def cutsWholesRow : OpenClaim := { program := "yteibcadggjlkcaa", sum := "f5076e0697638d5b985d04b66717ca73726d6f0c6519e5acefa6f4b5ee3cfb94", func := "folkmoot/folkmootlaw.CutsWholes", spec := "cutsWholes", plainKeys := false, apart := false }
def CutsWholesSaid : Prop := cutsWholesRow.holds Try.pinned (OpenSpec.ofChange cutsWholesSpec)

/-- ITS FALSE NEIGHBOUR: 'it returns false'. Refute it at one input. -/
def cutsWholesWrong : ChangeSpec := { name := "cutsWholes", fn := fun _ => fun
  | [d1, d2, d3] => { results := [.lit (.bool false)], args := [d1, d2, d3] }
  | _ => none }
def CutsWholesWrongFalsely : Prop := cutsWholesRow.holds Try.pinned (OpenSpec.ofChange cutsWholesWrong)

/- THE SECOND FORM. 'bulk': how many values and letters a reading holds, each counted each time it is reached (what is shared counts as often as it is met; a slice's spare places count too). A statement '..UptoSaid' is the law's where the arguments, and the package variables that the reading takes, are together of bulk at most 1048576: NARROWER than '..Said'. Prove '..Said' where nothing that the law and all that it calls make is longer than what came in: it says more and counts as full. Else prove '..UptoSaid'. A law counts once. -/
mutual
def uptoBulk {H : Type} : DataW H → Nat
  | .lit (.string bytes) => bytes.length + 1
  | .lit _ => 1
  | .nil => 1
  | .ptr d => uptoBulk d + 1
  | .slice elems spare => uptoBulkAll elems + uptoBulkAll spare + 1
  | .agg parts => uptoBulkAll parts + 1
  | .iface _ d => uptoBulk d + 1
  | .map entries => uptoBulkEntries entries + 1
  | .held _ => 1
def uptoBulkAll {H : Type} : List (DataW H) → Nat
  | [] => 0
  | d :: r => uptoBulk d + uptoBulkAll r
def uptoBulkEntries {H : Type} : List (Lit × DataW H) → Nat
  | [] => 0
  | x :: r => uptoBulkEntry x + uptoBulkEntries r
def uptoBulkEntry {H : Type} : Lit × DataW H → Nat
  | (.string bytes, d) => bytes.length + uptoBulk d + 1
  | (_, d) => uptoBulk d + 1
 end
def uptoSmall : (H : Type) → List (DataW H) → Bool := fun _ ds => decide (uptoBulkAll ds ≤ 1048576)
def OpenSpec.upto (s : _root_.Go.ChangeSpec) : _root_.Go.OpenSpec := { _root_.Go.OpenSpec.ofChange s with cond := some uptoSmall }

/-- 'folkmootlaw.KingPlays', WHERE WHAT IT READS IS OF BULK AT MOST 1048576: true; the input reads as it did. -/
def kingPlaysUptoRow : OpenClaim := { program := "yteibcadggjlkcaa", sum := "f5076e0697638d5b985d04b66717ca73726d6f0c6519e5acefa6f4b5ee3cfb94", func := "folkmoot/folkmootlaw.KingPlays", spec := "kingPlays", plainKeys := false, apart := false, narrowed := true }
def KingPlaysUptoSaid : Prop := kingPlaysUptoRow.holds Try.pinned (OpenSpec.upto kingPlaysSpec)

/-- 'folkmootlaw.WaitSelf', WHERE WHAT IT READS IS OF BULK AT MOST 1048576: true; the input reads as it did. -/
def waitSelfUptoRow : OpenClaim := { program := "yteibcadggjlkcaa", sum := "f5076e0697638d5b985d04b66717ca73726d6f0c6519e5acefa6f4b5ee3cfb94", func := "folkmoot/folkmootlaw.WaitSelf", spec := "waitSelf", unfollowed := true, recurses := true, plainKeys := false, apart := false, narrowed := true }
def WaitSelfUptoSaid : Prop := waitSelfUptoRow.holds Try.pinned (OpenSpec.upto waitSelfSpec)

/-- 'folkmootlaw.SerialOrders', WHERE WHAT IT READS IS OF BULK AT MOST 1048576: true; the input reads as it did. -/
def serialOrdersUptoRow : OpenClaim := { program := "yteibcadggjlkcaa", sum := "f5076e0697638d5b985d04b66717ca73726d6f0c6519e5acefa6f4b5ee3cfb94", func := "folkmoot/folkmootlaw.SerialOrders", spec := "serialOrders", plainKeys := false, apart := false, narrowed := true }
def SerialOrdersUptoSaid : Prop := serialOrdersUptoRow.holds Try.pinned (OpenSpec.upto serialOrdersSpec)

/-- 'folkmootlaw.ClocksVectors', WHERE WHAT IT READS IS OF BULK AT MOST 1048576: true; the input reads as it did. -/
def clocksVectorsUptoRow : OpenClaim := { program := "yteibcadggjlkcaa", sum := "f5076e0697638d5b985d04b66717ca73726d6f0c6519e5acefa6f4b5ee3cfb94", func := "folkmoot/folkmootlaw.ClocksVectors", spec := "clocksVectors", unfollowed := true, recurses := true, plainKeys := false, apart := false, narrowed := true }
def ClocksVectorsUptoSaid : Prop := clocksVectorsUptoRow.holds Try.pinned (OpenSpec.upto clocksVectorsSpec)

/-- 'folkmootlaw.PaxosPlays', WHERE WHAT IT READS IS OF BULK AT MOST 1048576: true; the input reads as it did. -/
def paxosPlaysUptoRow : OpenClaim := { program := "yteibcadggjlkcaa", sum := "f5076e0697638d5b985d04b66717ca73726d6f0c6519e5acefa6f4b5ee3cfb94", func := "folkmoot/folkmootlaw.PaxosPlays", spec := "paxosPlays", plainKeys := false, apart := false, narrowed := true }
def PaxosPlaysUptoSaid : Prop := paxosPlaysUptoRow.holds Try.pinned (OpenSpec.upto paxosPlaysSpec)

/-- 'folkmootlaw.MergeChecks', WHERE WHAT IT READS IS OF BULK AT MOST 1048576: true; the input reads as it did. -/
def mergeChecksUptoRow : OpenClaim := { program := "yteibcadggjlkcaa", sum := "f5076e0697638d5b985d04b66717ca73726d6f0c6519e5acefa6f4b5ee3cfb94", func := "folkmoot/folkmootlaw.MergeChecks", spec := "mergeChecks", unfollowed := true, recurses := true, plainKeys := false, apart := false, narrowed := true }
def MergeChecksUptoSaid : Prop := mergeChecksUptoRow.holds Try.pinned (OpenSpec.upto mergeChecksSpec)

/-- 'folkmootlaw.LinearTells', WHERE WHAT IT READS IS OF BULK AT MOST 1048576: true; the input reads as it did. -/
def linearTellsUptoRow : OpenClaim := { program := "yteibcadggjlkcaa", sum := "f5076e0697638d5b985d04b66717ca73726d6f0c6519e5acefa6f4b5ee3cfb94", func := "folkmoot/folkmootlaw.LinearTells", spec := "linearTells", recurses := true, plainKeys := false, apart := false, narrowed := true }
def LinearTellsUptoSaid : Prop := linearTellsUptoRow.holds Try.pinned (OpenSpec.upto linearTellsSpec)

/-- 'folkmootlaw.ClocksBefores', WHERE WHAT IT READS IS OF BULK AT MOST 1048576: true; the input reads as it did. -/
def clocksBeforesUptoRow : OpenClaim := { program := "yteibcadggjlkcaa", sum := "f5076e0697638d5b985d04b66717ca73726d6f0c6519e5acefa6f4b5ee3cfb94", func := "folkmoot/folkmootlaw.ClocksBefores", spec := "clocksBefores", unfollowed := true, recurses := true, plainKeys := false, apart := false, narrowed := true }
def ClocksBeforesUptoSaid : Prop := clocksBeforesUptoRow.holds Try.pinned (OpenSpec.upto clocksBeforesSpec)

/-- 'folkmootlaw.SerialReads', WHERE WHAT IT READS IS OF BULK AT MOST 1048576: true; the input reads as it did. -/
def serialReadsUptoRow : OpenClaim := { program := "yteibcadggjlkcaa", sum := "f5076e0697638d5b985d04b66717ca73726d6f0c6519e5acefa6f4b5ee3cfb94", func := "folkmoot/folkmootlaw.SerialReads", spec := "serialReads", plainKeys := false, apart := false, narrowed := true }
def SerialReadsUptoSaid : Prop := serialReadsUptoRow.holds Try.pinned (OpenSpec.upto serialReadsSpec)

/-- 'folkmootlaw.QuietPlays', WHERE WHAT IT READS IS OF BULK AT MOST 1048576: true; the input reads as it did. -/
def quietPlaysUptoRow : OpenClaim := { program := "yteibcadggjlkcaa", sum := "f5076e0697638d5b985d04b66717ca73726d6f0c6519e5acefa6f4b5ee3cfb94", func := "folkmoot/folkmootlaw.QuietPlays", spec := "quietPlays", unfollowed := true, recurses := true, plainKeys := false, apart := false, narrowed := true }
def QuietPlaysUptoSaid : Prop := quietPlaysUptoRow.holds Try.pinned (OpenSpec.upto quietPlaysSpec)

/-- 'folkmootlaw.CutsWholes', WHERE WHAT IT READS IS OF BULK AT MOST 1048576: true; the input reads as it did. -/
def cutsWholesUptoRow : OpenClaim := { program := "yteibcadggjlkcaa", sum := "f5076e0697638d5b985d04b66717ca73726d6f0c6519e5acefa6f4b5ee3cfb94", func := "folkmoot/folkmootlaw.CutsWholes", spec := "cutsWholes", plainKeys := false, apart := false, narrowed := true }
def CutsWholesUptoSaid : Prop := cutsWholesUptoRow.holds Try.pinned (OpenSpec.upto cutsWholesSpec)

end Rows
end Go.Proofs.Yteibcadggjlkcaa
