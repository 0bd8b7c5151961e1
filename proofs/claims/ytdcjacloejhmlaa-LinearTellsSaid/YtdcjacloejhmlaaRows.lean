/-
  No cell of these rows narrows 'for every input' (looked for: loops, veiled, ifaces, maps, wideKeys, modest, calm, conditions, laid).
  DERIVED. THE GIVEN ROWS OF THIS SEAT. 12 by the template 'for every input the law returns true; each argument reads behind the call as it read before'; 0 by the template 'total and deterministic' (their statements: YtdcjacloejhmlaaTotals.lean).
  GIVEN WITH THE SEED: the statements are not yours to turn. If you find one false, say at which input.
  Laid BY PROGRAM, IN A SANDBOX (cutbox-rows.mjs): the forced cells as the released guide's own fill.sh prints them over the translation 803548c3c3a993c0… (all of the seat's roots in one cut). By AI agents, Wed Nov 11 2026. No macro, syntax, notation, axiom, sorry.
-/
import Derived.Test.YtdcjacloejhmlaaChecked
import GoSem.Claim
import GoSem.ClaimJoined
import GoSem.ClaimMapViews
import Derived.JoinedTies
import Derived.KernelRfl
namespace Go.Proofs.Ytdcjacloejhmlaa
/- THE CELL 'sum', in the pinned program and in every row, IS THE sha256 OF THE DUMP (.gsa) THAT YtdcjacloejhmlaaProg.lean LOADS. Nothing in Lean hashes anything: it is a label: what it is worth is what the hold of that sum in a sandbox is worth. -/
noncomputable def Try.pinned : Pinned := { name := "ytdcjacloejhmlaa", sum := "803548c3c3a993c0d106468baa12fee28913cc318124451058a53e50ac5bed10", checked := Try.checked }
namespace Rows
def none {H : Type} : Left H := { results := [], args := [] }

/-- 'folkmootlaw.WaitStuck': WHATEVER THE INPUT: true; the input reads as it did. -/
def waitStuckSpec : ChangeSpec := { name := "waitStuck", fn := fun _ => fun
  | [d1, d2] => { results := [.lit (.bool true)], args := [d1, d2] }
  | _ => none }
def waitStuckRow : OpenClaim := { program := "ytdcjacloejhmlaa", sum := "803548c3c3a993c0d106468baa12fee28913cc318124451058a53e50ac5bed10", func := "folkmoot/folkmootlaw.WaitStuck", spec := "waitStuck", unfollowed := true, recurses := true, plainKeys := false, apart := false }
def WaitStuckSaid : Prop := waitStuckRow.holds Try.pinned (OpenSpec.ofChange waitStuckSpec)

/-- ITS FALSE NEIGHBOUR: 'it returns false'. Refute it at one input. -/
def waitStuckWrong : ChangeSpec := { name := "waitStuck", fn := fun _ => fun
  | [d1, d2] => { results := [.lit (.bool false)], args := [d1, d2] }
  | _ => none }
def WaitStuckWrongFalsely : Prop := waitStuckRow.holds Try.pinned (OpenSpec.ofChange waitStuckWrong)

/-- 'folkmootlaw.MergeChecks': WHATEVER THE INPUT: true; the input reads as it did. -/
def mergeChecksSpec : ChangeSpec := { name := "mergeChecks", fn := fun _ => fun
  | [d1, d2] => { results := [.lit (.bool true)], args := [d1, d2] }
  | _ => none }
def mergeChecksRow : OpenClaim := { program := "ytdcjacloejhmlaa", sum := "803548c3c3a993c0d106468baa12fee28913cc318124451058a53e50ac5bed10", func := "folkmoot/folkmootlaw.MergeChecks", spec := "mergeChecks", unfollowed := true, recurses := true, plainKeys := false, apart := false }
def MergeChecksSaid : Prop := mergeChecksRow.holds Try.pinned (OpenSpec.ofChange mergeChecksSpec)

/-- ITS FALSE NEIGHBOUR: 'it returns false'. Refute it at one input. -/
def mergeChecksWrong : ChangeSpec := { name := "mergeChecks", fn := fun _ => fun
  | [d1, d2] => { results := [.lit (.bool false)], args := [d1, d2] }
  | _ => none }
def MergeChecksWrongFalsely : Prop := mergeChecksRow.holds Try.pinned (OpenSpec.ofChange mergeChecksWrong)

/-- 'folkmootlaw.SerialOrders': WHATEVER THE INPUT: true; the input reads as it did. -/
def serialOrdersSpec : ChangeSpec := { name := "serialOrders", fn := fun _ => fun
  | [d] => { results := [.lit (.bool true)], args := [d] }
  | _ => none }
def serialOrdersRow : OpenClaim := { program := "ytdcjacloejhmlaa", sum := "803548c3c3a993c0d106468baa12fee28913cc318124451058a53e50ac5bed10", func := "folkmoot/folkmootlaw.SerialOrders", spec := "serialOrders", plainKeys := false, apart := false }
def SerialOrdersSaid : Prop := serialOrdersRow.holds Try.pinned (OpenSpec.ofChange serialOrdersSpec)

/-- ITS FALSE NEIGHBOUR: 'it returns false'. Refute it at one input. -/
def serialOrdersWrong : ChangeSpec := { name := "serialOrders", fn := fun _ => fun
  | [d] => { results := [.lit (.bool false)], args := [d] }
  | _ => none }
def SerialOrdersWrongFalsely : Prop := serialOrdersRow.holds Try.pinned (OpenSpec.ofChange serialOrdersWrong)

/-- 'folkmootlaw.CutsWholes': WHATEVER THE INPUT: true; the input reads as it did. -/
def cutsWholesSpec : ChangeSpec := { name := "cutsWholes", fn := fun _ => fun
  | [d1, d2, d3] => { results := [.lit (.bool true)], args := [d1, d2, d3] }
  | _ => none }
def cutsWholesRow : OpenClaim := { program := "ytdcjacloejhmlaa", sum := "803548c3c3a993c0d106468baa12fee28913cc318124451058a53e50ac5bed10", func := "folkmoot/folkmootlaw.CutsWholes", spec := "cutsWholes", plainKeys := false, apart := false }
def CutsWholesSaid : Prop := cutsWholesRow.holds Try.pinned (OpenSpec.ofChange cutsWholesSpec)

/-- ITS FALSE NEIGHBOUR: 'it returns false'. Refute it at one input. -/
def cutsWholesWrong : ChangeSpec := { name := "cutsWholes", fn := fun _ => fun
  | [d1, d2, d3] => { results := [.lit (.bool false)], args := [d1, d2, d3] }
  | _ => none }
def CutsWholesWrongFalsely : Prop := cutsWholesRow.holds Try.pinned (OpenSpec.ofChange cutsWholesWrong)

/-- 'folkmootlaw.PaxosPlays': WHATEVER THE INPUT: true; the input reads as it did. -/
def paxosPlaysSpec : ChangeSpec := { name := "paxosPlays", fn := fun _ => fun
  | [d1, d2] => { results := [.lit (.bool true)], args := [d1, d2] }
  | _ => none }
def paxosPlaysRow : OpenClaim := { program := "ytdcjacloejhmlaa", sum := "803548c3c3a993c0d106468baa12fee28913cc318124451058a53e50ac5bed10", func := "folkmoot/folkmootlaw.PaxosPlays", spec := "paxosPlays", plainKeys := false, apart := false }
def PaxosPlaysSaid : Prop := paxosPlaysRow.holds Try.pinned (OpenSpec.ofChange paxosPlaysSpec)

/-- ITS FALSE NEIGHBOUR: 'it returns false'. Refute it at one input. -/
def paxosPlaysWrong : ChangeSpec := { name := "paxosPlays", fn := fun _ => fun
  | [d1, d2] => { results := [.lit (.bool false)], args := [d1, d2] }
  | _ => none }
def PaxosPlaysWrongFalsely : Prop := paxosPlaysRow.holds Try.pinned (OpenSpec.ofChange paxosPlaysWrong)

/-- 'folkmootlaw.MergeItems': WHATEVER THE INPUT: true; the input reads as it did. -/
def mergeItemsSpec : ChangeSpec := { name := "mergeItems", fn := fun _ => fun
  | [d1, d2] => { results := [.lit (.bool true)], args := [d1, d2] }
  | _ => none }
def mergeItemsRow : OpenClaim := { program := "ytdcjacloejhmlaa", sum := "803548c3c3a993c0d106468baa12fee28913cc318124451058a53e50ac5bed10", func := "folkmoot/folkmootlaw.MergeItems", spec := "mergeItems", unfollowed := true, recurses := true, plainKeys := false, apart := false }
def MergeItemsSaid : Prop := mergeItemsRow.holds Try.pinned (OpenSpec.ofChange mergeItemsSpec)

/-- ITS FALSE NEIGHBOUR: 'it returns false'. Refute it at one input. -/
def mergeItemsWrong : ChangeSpec := { name := "mergeItems", fn := fun _ => fun
  | [d1, d2] => { results := [.lit (.bool false)], args := [d1, d2] }
  | _ => none }
def MergeItemsWrongFalsely : Prop := mergeItemsRow.holds Try.pinned (OpenSpec.ofChange mergeItemsWrong)

/-- 'folkmootlaw.LinearTells': WHATEVER THE INPUT: true; the input reads as it did. -/
def linearTellsSpec : ChangeSpec := { name := "linearTells", fn := fun _ => fun
  | [d] => { results := [.lit (.bool true)], args := [d] }
  | _ => none }
def linearTellsRow : OpenClaim := { program := "ytdcjacloejhmlaa", sum := "803548c3c3a993c0d106468baa12fee28913cc318124451058a53e50ac5bed10", func := "folkmoot/folkmootlaw.LinearTells", spec := "linearTells", recurses := true, plainKeys := false, apart := false }
def LinearTellsSaid : Prop := linearTellsRow.holds Try.pinned (OpenSpec.ofChange linearTellsSpec)

/-- ITS FALSE NEIGHBOUR: 'it returns false'. Refute it at one input. -/
def linearTellsWrong : ChangeSpec := { name := "linearTells", fn := fun _ => fun
  | [d] => { results := [.lit (.bool false)], args := [d] }
  | _ => none }
def LinearTellsWrongFalsely : Prop := linearTellsRow.holds Try.pinned (OpenSpec.ofChange linearTellsWrong)

/-- 'folkmootlaw.QuietPlays': WHATEVER THE INPUT: true; the input reads as it did. -/
def quietPlaysSpec : ChangeSpec := { name := "quietPlays", fn := fun _ => fun
  | [d1, d2] => { results := [.lit (.bool true)], args := [d1, d2] }
  | _ => none }
def quietPlaysRow : OpenClaim := { program := "ytdcjacloejhmlaa", sum := "803548c3c3a993c0d106468baa12fee28913cc318124451058a53e50ac5bed10", func := "folkmoot/folkmootlaw.QuietPlays", spec := "quietPlays", unfollowed := true, recurses := true, plainKeys := false, apart := false }
def QuietPlaysSaid : Prop := quietPlaysRow.holds Try.pinned (OpenSpec.ofChange quietPlaysSpec)

/-- ITS FALSE NEIGHBOUR: 'it returns false'. Refute it at one input. -/
def quietPlaysWrong : ChangeSpec := { name := "quietPlays", fn := fun _ => fun
  | [d1, d2] => { results := [.lit (.bool false)], args := [d1, d2] }
  | _ => none }
def QuietPlaysWrongFalsely : Prop := quietPlaysRow.holds Try.pinned (OpenSpec.ofChange quietPlaysWrong)

/-- 'folkmootlaw.CutsGrows': WHATEVER THE INPUT: true; the input reads as it did. -/
def cutsGrowsSpec : ChangeSpec := { name := "cutsGrows", fn := fun _ => fun
  | [d1, d2, d3] => { results := [.lit (.bool true)], args := [d1, d2, d3] }
  | _ => none }
def cutsGrowsRow : OpenClaim := { program := "ytdcjacloejhmlaa", sum := "803548c3c3a993c0d106468baa12fee28913cc318124451058a53e50ac5bed10", func := "folkmoot/folkmootlaw.CutsGrows", spec := "cutsGrows", unfollowed := true, recurses := true, plainKeys := false, apart := false }
def CutsGrowsSaid : Prop := cutsGrowsRow.holds Try.pinned (OpenSpec.ofChange cutsGrowsSpec)

/-- ITS FALSE NEIGHBOUR: 'it returns false'. Refute it at one input. -/
def cutsGrowsWrong : ChangeSpec := { name := "cutsGrows", fn := fun _ => fun
  | [d1, d2, d3] => { results := [.lit (.bool false)], args := [d1, d2, d3] }
  | _ => none }
def CutsGrowsWrongFalsely : Prop := cutsGrowsRow.holds Try.pinned (OpenSpec.ofChange cutsGrowsWrong)

/-- 'folkmootlaw.CutsShrinks': WHATEVER THE INPUT: true; the input reads as it did. -/
def cutsShrinksSpec : ChangeSpec := { name := "cutsShrinks", fn := fun _ => fun
  | [d1, d2, d3] => { results := [.lit (.bool true)], args := [d1, d2, d3] }
  | _ => none }
def cutsShrinksRow : OpenClaim := { program := "ytdcjacloejhmlaa", sum := "803548c3c3a993c0d106468baa12fee28913cc318124451058a53e50ac5bed10", func := "folkmoot/folkmootlaw.CutsShrinks", spec := "cutsShrinks", unfollowed := true, recurses := true, plainKeys := false, apart := false }
def CutsShrinksSaid : Prop := cutsShrinksRow.holds Try.pinned (OpenSpec.ofChange cutsShrinksSpec)

/-- ITS FALSE NEIGHBOUR: 'it returns false'. Refute it at one input. -/
def cutsShrinksWrong : ChangeSpec := { name := "cutsShrinks", fn := fun _ => fun
  | [d1, d2, d3] => { results := [.lit (.bool false)], args := [d1, d2, d3] }
  | _ => none }
def CutsShrinksWrongFalsely : Prop := cutsShrinksRow.holds Try.pinned (OpenSpec.ofChange cutsShrinksWrong)

/-- 'folkmootlaw.RegisterPlays': WHATEVER THE INPUT: true; the input reads as it did. -/
def registerPlaysSpec : ChangeSpec := { name := "registerPlays", fn := fun _ => fun
  | [d1, d2] => { results := [.lit (.bool true)], args := [d1, d2] }
  | _ => none }
def registerPlaysRow : OpenClaim := { program := "ytdcjacloejhmlaa", sum := "803548c3c3a993c0d106468baa12fee28913cc318124451058a53e50ac5bed10", func := "folkmoot/folkmootlaw.RegisterPlays", spec := "registerPlays", plainKeys := false, apart := false }
def RegisterPlaysSaid : Prop := registerPlaysRow.holds Try.pinned (OpenSpec.ofChange registerPlaysSpec)

/-- ITS FALSE NEIGHBOUR: 'it returns false'. Refute it at one input. -/
def registerPlaysWrong : ChangeSpec := { name := "registerPlays", fn := fun _ => fun
  | [d1, d2] => { results := [.lit (.bool false)], args := [d1, d2] }
  | _ => none }
def RegisterPlaysWrongFalsely : Prop := registerPlaysRow.holds Try.pinned (OpenSpec.ofChange registerPlaysWrong)

/-- 'folkmootlaw.SnapPlays': WHATEVER THE INPUT: true; the input reads as it did. -/
def snapPlaysSpec : ChangeSpec := { name := "snapPlays", fn := fun _ => fun
  | [d1, d2] => { results := [.lit (.bool true)], args := [d1, d2] }
  | _ => none }
def snapPlaysRow : OpenClaim := { program := "ytdcjacloejhmlaa", sum := "803548c3c3a993c0d106468baa12fee28913cc318124451058a53e50ac5bed10", func := "folkmoot/folkmootlaw.SnapPlays", spec := "snapPlays", unfollowed := true, recurses := true, plainKeys := false, apart := false }
def SnapPlaysSaid : Prop := snapPlaysRow.holds Try.pinned (OpenSpec.ofChange snapPlaysSpec)

/-- ITS FALSE NEIGHBOUR: 'it returns false'. Refute it at one input. -/
def snapPlaysWrong : ChangeSpec := { name := "snapPlays", fn := fun _ => fun
  | [d1, d2] => { results := [.lit (.bool false)], args := [d1, d2] }
  | _ => none }
def SnapPlaysWrongFalsely : Prop := snapPlaysRow.holds Try.pinned (OpenSpec.ofChange snapPlaysWrong)

/- THE SECOND FORM. 'bulk': how many values and letters a reading holds, each counted each time it is reached (what is shared counts as often as it is met; a slice's spare places count too). A statement '..UptoSaid' is the law's where the arguments, and the package variables that the reading takes, are together of bulk at most 1048576: NARROWER than '..Said'. Prove '..Said' where nothing that the law and all that it calls make is longer than what came in: it says more and counts as full. Else prove '..UptoSaid'. A law counts once. -/
mutual
def uptoBulk {H : Type} : DataW H → Nat
  | .lit (.string bytes) => bytes.length + 1
  | .lit _ => 1
  | .nil => 1
  | .ptr d => uptoBulk d + 1
  | .slice elems spare => uptoBulkAll elems + uptoBulkAll spare + 1
  | .agg parts => uptoBulkAll parts + 1
  | .iface _ d => uptoBulk d + 1
  | .map entries => uptoBulkEntries entries + 1
  | .held _ => 1
def uptoBulkAll {H : Type} : List (DataW H) → Nat
  | [] => 0
  | d :: r => uptoBulk d + uptoBulkAll r
def uptoBulkEntries {H : Type} : List (Lit × DataW H) → Nat
  | [] => 0
  | x :: r => uptoBulkEntry x + uptoBulkEntries r
def uptoBulkEntry {H : Type} : Lit × DataW H → Nat
  | (.string bytes, d) => bytes.length + uptoBulk d + 1
  | (_, d) => uptoBulk d + 1
 end
def uptoSmall : (H : Type) → List (DataW H) → Bool := fun _ ds => decide (uptoBulkAll ds ≤ 1048576)
def OpenSpec.upto (s : _root_.Go.ChangeSpec) : _root_.Go.OpenSpec := { _root_.Go.OpenSpec.ofChange s with cond := some uptoSmall }

/-- 'folkmootlaw.WaitStuck', WHERE WHAT IT READS IS OF BULK AT MOST 1048576: true; the input reads as it did. -/
def waitStuckUptoRow : OpenClaim := { program := "ytdcjacloejhmlaa", sum := "803548c3c3a993c0d106468baa12fee28913cc318124451058a53e50ac5bed10", func := "folkmoot/folkmootlaw.WaitStuck", spec := "waitStuck", unfollowed := true, recurses := true, plainKeys := false, apart := false, narrowed := true }
def WaitStuckUptoSaid : Prop := waitStuckUptoRow.holds Try.pinned (OpenSpec.upto waitStuckSpec)

/-- 'folkmootlaw.MergeChecks', WHERE WHAT IT READS IS OF BULK AT MOST 1048576: true; the input reads as it did. -/
def mergeChecksUptoRow : OpenClaim := { program := "ytdcjacloejhmlaa", sum := "803548c3c3a993c0d106468baa12fee28913cc318124451058a53e50ac5bed10", func := "folkmoot/folkmootlaw.MergeChecks", spec := "mergeChecks", unfollowed := true, recurses := true, plainKeys := false, apart := false, narrowed := true }
def MergeChecksUptoSaid : Prop := mergeChecksUptoRow.holds Try.pinned (OpenSpec.upto mergeChecksSpec)

/-- 'folkmootlaw.SerialOrders', WHERE WHAT IT READS IS OF BULK AT MOST 1048576: true; the input reads as it did. -/
def serialOrdersUptoRow : OpenClaim := { program := "ytdcjacloejhmlaa", sum := "803548c3c3a993c0d106468baa12fee28913cc318124451058a53e50ac5bed10", func := "folkmoot/folkmootlaw.SerialOrders", spec := "serialOrders", plainKeys := false, apart := false, narrowed := true }
def SerialOrdersUptoSaid : Prop := serialOrdersUptoRow.holds Try.pinned (OpenSpec.upto serialOrdersSpec)

/-- 'folkmootlaw.CutsWholes', WHERE WHAT IT READS IS OF BULK AT MOST 1048576: true; the input reads as it did. -/
def cutsWholesUptoRow : OpenClaim := { program := "ytdcjacloejhmlaa", sum := "803548c3c3a993c0d106468baa12fee28913cc318124451058a53e50ac5bed10", func := "folkmoot/folkmootlaw.CutsWholes", spec := "cutsWholes", plainKeys := false, apart := false, narrowed := true }
def CutsWholesUptoSaid : Prop := cutsWholesUptoRow.holds Try.pinned (OpenSpec.upto cutsWholesSpec)

/-- 'folkmootlaw.PaxosPlays', WHERE WHAT IT READS IS OF BULK AT MOST 1048576: true; the input reads as it did. -/
def paxosPlaysUptoRow : OpenClaim := { program := "ytdcjacloejhmlaa", sum := "803548c3c3a993c0d106468baa12fee28913cc318124451058a53e50ac5bed10", func := "folkmoot/folkmootlaw.PaxosPlays", spec := "paxosPlays", plainKeys := false, apart := false, narrowed := true }
def PaxosPlaysUptoSaid : Prop := paxosPlaysUptoRow.holds Try.pinned (OpenSpec.upto paxosPlaysSpec)

/-- 'folkmootlaw.MergeItems', WHERE WHAT IT READS IS OF BULK AT MOST 1048576: true; the input reads as it did. -/
def mergeItemsUptoRow : OpenClaim := { program := "ytdcjacloejhmlaa", sum := "803548c3c3a993c0d106468baa12fee28913cc318124451058a53e50ac5bed10", func := "folkmoot/folkmootlaw.MergeItems", spec := "mergeItems", unfollowed := true, recurses := true, plainKeys := false, apart := false, narrowed := true }
def MergeItemsUptoSaid : Prop := mergeItemsUptoRow.holds Try.pinned (OpenSpec.upto mergeItemsSpec)

/-- 'folkmootlaw.LinearTells', WHERE WHAT IT READS IS OF BULK AT MOST 1048576: true; the input reads as it did. -/
def linearTellsUptoRow : OpenClaim := { program := "ytdcjacloejhmlaa", sum := "803548c3c3a993c0d106468baa12fee28913cc318124451058a53e50ac5bed10", func := "folkmoot/folkmootlaw.LinearTells", spec := "linearTells", recurses := true, plainKeys := false, apart := false, narrowed := true }
def LinearTellsUptoSaid : Prop := linearTellsUptoRow.holds Try.pinned (OpenSpec.upto linearTellsSpec)

/-- 'folkmootlaw.QuietPlays', WHERE WHAT IT READS IS OF BULK AT MOST 1048576: true; the input reads as it did. -/
def quietPlaysUptoRow : OpenClaim := { program := "ytdcjacloejhmlaa", sum := "803548c3c3a993c0d106468baa12fee28913cc318124451058a53e50ac5bed10", func := "folkmoot/folkmootlaw.QuietPlays", spec := "quietPlays", unfollowed := true, recurses := true, plainKeys := false, apart := false, narrowed := true }
def QuietPlaysUptoSaid : Prop := quietPlaysUptoRow.holds Try.pinned (OpenSpec.upto quietPlaysSpec)

/-- 'folkmootlaw.CutsGrows', WHERE WHAT IT READS IS OF BULK AT MOST 1048576: true; the input reads as it did. -/
def cutsGrowsUptoRow : OpenClaim := { program := "ytdcjacloejhmlaa", sum := "803548c3c3a993c0d106468baa12fee28913cc318124451058a53e50ac5bed10", func := "folkmoot/folkmootlaw.CutsGrows", spec := "cutsGrows", unfollowed := true, recurses := true, plainKeys := false, apart := false, narrowed := true }
def CutsGrowsUptoSaid : Prop := cutsGrowsUptoRow.holds Try.pinned (OpenSpec.upto cutsGrowsSpec)

/-- 'folkmootlaw.CutsShrinks', WHERE WHAT IT READS IS OF BULK AT MOST 1048576: true; the input reads as it did. -/
def cutsShrinksUptoRow : OpenClaim := { program := "ytdcjacloejhmlaa", sum := "803548c3c3a993c0d106468baa12fee28913cc318124451058a53e50ac5bed10", func := "folkmoot/folkmootlaw.CutsShrinks", spec := "cutsShrinks", unfollowed := true, recurses := true, plainKeys := false, apart := false, narrowed := true }
def CutsShrinksUptoSaid : Prop := cutsShrinksUptoRow.holds Try.pinned (OpenSpec.upto cutsShrinksSpec)

/-- 'folkmootlaw.RegisterPlays', WHERE WHAT IT READS IS OF BULK AT MOST 1048576: true; the input reads as it did. -/
def registerPlaysUptoRow : OpenClaim := { program := "ytdcjacloejhmlaa", sum := "803548c3c3a993c0d106468baa12fee28913cc318124451058a53e50ac5bed10", func := "folkmoot/folkmootlaw.RegisterPlays", spec := "registerPlays", plainKeys := false, apart := false, narrowed := true }
def RegisterPlaysUptoSaid : Prop := registerPlaysUptoRow.holds Try.pinned (OpenSpec.upto registerPlaysSpec)

/-- 'folkmootlaw.SnapPlays', WHERE WHAT IT READS IS OF BULK AT MOST 1048576: true; the input reads as it did. -/
def snapPlaysUptoRow : OpenClaim := { program := "ytdcjacloejhmlaa", sum := "803548c3c3a993c0d106468baa12fee28913cc318124451058a53e50ac5bed10", func := "folkmoot/folkmootlaw.SnapPlays", spec := "snapPlays", unfollowed := true, recurses := true, plainKeys := false, apart := false, narrowed := true }
def SnapPlaysUptoSaid : Prop := snapPlaysUptoRow.holds Try.pinned (OpenSpec.upto snapPlaysSpec)

end Rows
end Go.Proofs.Ytdcjacloejhmlaa
