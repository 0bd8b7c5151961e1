/-
  No cell of these rows narrows 'for every input' (looked for: loops, veiled, ifaces, maps, wideKeys, modest, calm, conditions, laid).
  DERIVED. THE GIVEN ROWS OF THIS SEAT. 12 by the template 'for every input the law returns true; each argument reads behind the call as it read before'; 0 by the template 'total and deterministic' (their statements: YtghnkehklnehlaaTotals.lean).
  GIVEN WITH THE SEED: the statements are not yours to turn. If you find one false, say at which input.
  Laid BY PROGRAM, IN A SANDBOX (cutbox-rows.mjs): the forced cells as the released guide's own fill.sh prints them over the translation 1f4aba92613f5d64… (all of the seat's roots in one cut). By AI agents, Wed Nov 11 2026. No macro, syntax, notation, axiom, sorry.
-/
import Derived.Test.YtghnkehklnehlaaChecked
import GoSem.Claim
import GoSem.ClaimJoined
import GoSem.ClaimMapViews
import Derived.JoinedTies
import Derived.KernelRfl
namespace Go.Proofs.Ytghnkehklnehlaa
/- THE CELL 'sum', in the pinned program and in every row, IS THE sha256 OF THE DUMP (.gsa) THAT YtghnkehklnehlaaProg.lean LOADS. Nothing in Lean hashes anything: it is a label: what it is worth is what the hold of that sum in a sandbox is worth. -/
noncomputable def Try.pinned : Pinned := { name := "ytghnkehklnehlaa", sum := "1f4aba92613f5d64ecdf40e46c6c0b6080b49e56da4fb2b655b52b370fb568a0", checked := Try.checked }
namespace Rows
def none {H : Type} : Left H := { results := [], args := [] }

/-- 'folkmootlaw.ChainChecks': WHATEVER THE INPUT: true; the input reads as it did. -/
def chainChecksSpec : ChangeSpec := { name := "chainChecks", fn := fun _ => fun
  | [d] => { results := [.lit (.bool true)], args := [d] }
  | _ => none }
def chainChecksRow : OpenClaim := { program := "ytghnkehklnehlaa", sum := "1f4aba92613f5d64ecdf40e46c6c0b6080b49e56da4fb2b655b52b370fb568a0", func := "folkmoot/folkmootlaw.ChainChecks", spec := "chainChecks", apart := false }
def ChainChecksSaid : Prop := chainChecksRow.holds Try.pinned (OpenSpec.ofChange chainChecksSpec)

/-- ITS FALSE NEIGHBOUR: 'it returns false'. Refute it at one input. -/
def chainChecksWrong : ChangeSpec := { name := "chainChecks", fn := fun _ => fun
  | [d] => { results := [.lit (.bool false)], args := [d] }
  | _ => none }
def ChainChecksWrongFalsely : Prop := chainChecksRow.holds Try.pinned (OpenSpec.ofChange chainChecksWrong)

/-- 'folkmootlaw.ChainMeets': WHATEVER THE INPUT: true; the input reads as it did. -/
def chainMeetsSpec : ChangeSpec := { name := "chainMeets", fn := fun _ => fun
  | [d1, d2, d3] => { results := [.lit (.bool true)], args := [d1, d2, d3] }
  | _ => none }
def chainMeetsRow : OpenClaim := { program := "ytghnkehklnehlaa", sum := "1f4aba92613f5d64ecdf40e46c6c0b6080b49e56da4fb2b655b52b370fb568a0", func := "folkmoot/folkmootlaw.ChainMeets", spec := "chainMeets", recurses := true, apart := false }
def ChainMeetsSaid : Prop := chainMeetsRow.holds Try.pinned (OpenSpec.ofChange chainMeetsSpec)

/-- ITS FALSE NEIGHBOUR: 'it returns false'. Refute it at one input. -/
def chainMeetsWrong : ChangeSpec := { name := "chainMeets", fn := fun _ => fun
  | [d1, d2, d3] => { results := [.lit (.bool false)], args := [d1, d2, d3] }
  | _ => none }
def ChainMeetsWrongFalsely : Prop := chainMeetsRow.holds Try.pinned (OpenSpec.ofChange chainMeetsWrong)

/-- 'folkmootlaw.ChainDecides': WHATEVER THE INPUT: true; the input reads as it did. -/
def chainDecidesSpec : ChangeSpec := { name := "chainDecides", fn := fun _ => fun
  | [d1, d2] => { results := [.lit (.bool true)], args := [d1, d2] }
  | _ => none }
def chainDecidesRow : OpenClaim := { program := "ytghnkehklnehlaa", sum := "1f4aba92613f5d64ecdf40e46c6c0b6080b49e56da4fb2b655b52b370fb568a0", func := "folkmoot/folkmootlaw.ChainDecides", spec := "chainDecides", unfollowed := true, recurses := true, apart := false }
def ChainDecidesSaid : Prop := chainDecidesRow.holds Try.pinned (OpenSpec.ofChange chainDecidesSpec)

/-- ITS FALSE NEIGHBOUR: 'it returns false'. Refute it at one input. -/
def chainDecidesWrong : ChangeSpec := { name := "chainDecides", fn := fun _ => fun
  | [d1, d2] => { results := [.lit (.bool false)], args := [d1, d2] }
  | _ => none }
def ChainDecidesWrongFalsely : Prop := chainDecidesRow.holds Try.pinned (OpenSpec.ofChange chainDecidesWrong)

/-- 'folkmootlaw.ChainPaths': WHATEVER THE INPUT: true; the input reads as it did. -/
def chainPathsSpec : ChangeSpec := { name := "chainPaths", fn := fun _ => fun
  | [d1, d2] => { results := [.lit (.bool true)], args := [d1, d2] }
  | _ => none }
def chainPathsRow : OpenClaim := { program := "ytghnkehklnehlaa", sum := "1f4aba92613f5d64ecdf40e46c6c0b6080b49e56da4fb2b655b52b370fb568a0", func := "folkmoot/folkmootlaw.ChainPaths", spec := "chainPaths", unfollowed := true, recurses := true, apart := false }
def ChainPathsSaid : Prop := chainPathsRow.holds Try.pinned (OpenSpec.ofChange chainPathsSpec)

/-- ITS FALSE NEIGHBOUR: 'it returns false'. Refute it at one input. -/
def chainPathsWrong : ChangeSpec := { name := "chainPaths", fn := fun _ => fun
  | [d1, d2] => { results := [.lit (.bool false)], args := [d1, d2] }
  | _ => none }
def ChainPathsWrongFalsely : Prop := chainPathsRow.holds Try.pinned (OpenSpec.ofChange chainPathsWrong)

/-- 'folkmootlaw.StableChecks': WHATEVER THE INPUT: true; the input reads as it did. -/
def stableChecksSpec : ChangeSpec := { name := "stableChecks", fn := fun _ => fun
  | [d1, d2] => { results := [.lit (.bool true)], args := [d1, d2] }
  | _ => none }
def stableChecksRow : OpenClaim := { program := "ytghnkehklnehlaa", sum := "1f4aba92613f5d64ecdf40e46c6c0b6080b49e56da4fb2b655b52b370fb568a0", func := "folkmoot/folkmootlaw.StableChecks", spec := "stableChecks", unfollowed := true, recurses := true, apart := false }
def StableChecksSaid : Prop := stableChecksRow.holds Try.pinned (OpenSpec.ofChange stableChecksSpec)

/-- ITS FALSE NEIGHBOUR: 'it returns false'. Refute it at one input. -/
def stableChecksWrong : ChangeSpec := { name := "stableChecks", fn := fun _ => fun
  | [d1, d2] => { results := [.lit (.bool false)], args := [d1, d2] }
  | _ => none }
def StableChecksWrongFalsely : Prop := stableChecksRow.holds Try.pinned (OpenSpec.ofChange stableChecksWrong)

/-- 'folkmootlaw.StableFrees': WHATEVER THE INPUT: true; the input reads as it did. -/
def stableFreesSpec : ChangeSpec := { name := "stableFrees", fn := fun _ => fun
  | [d1, d2] => { results := [.lit (.bool true)], args := [d1, d2] }
  | _ => none }
def stableFreesRow : OpenClaim := { program := "ytghnkehklnehlaa", sum := "1f4aba92613f5d64ecdf40e46c6c0b6080b49e56da4fb2b655b52b370fb568a0", func := "folkmoot/folkmootlaw.StableFrees", spec := "stableFrees", unfollowed := true, recurses := true, apart := false }
def StableFreesSaid : Prop := stableFreesRow.holds Try.pinned (OpenSpec.ofChange stableFreesSpec)

/-- ITS FALSE NEIGHBOUR: 'it returns false'. Refute it at one input. -/
def stableFreesWrong : ChangeSpec := { name := "stableFrees", fn := fun _ => fun
  | [d1, d2] => { results := [.lit (.bool false)], args := [d1, d2] }
  | _ => none }
def StableFreesWrongFalsely : Prop := stableFreesRow.holds Try.pinned (OpenSpec.ofChange stableFreesWrong)

/-- 'folkmootlaw.StableMoves': WHATEVER THE INPUT: true; the input reads as it did. -/
def stableMovesSpec : ChangeSpec := { name := "stableMoves", fn := fun _ => fun
  | [d1, d2, d3] => { results := [.lit (.bool true)], args := [d1, d2, d3] }
  | _ => none }
def stableMovesRow : OpenClaim := { program := "ytghnkehklnehlaa", sum := "1f4aba92613f5d64ecdf40e46c6c0b6080b49e56da4fb2b655b52b370fb568a0", func := "folkmoot/folkmootlaw.StableMoves", spec := "stableMoves", unfollowed := true, recurses := true, apart := false }
def StableMovesSaid : Prop := stableMovesRow.holds Try.pinned (OpenSpec.ofChange stableMovesSpec)

/-- ITS FALSE NEIGHBOUR: 'it returns false'. Refute it at one input. -/
def stableMovesWrong : ChangeSpec := { name := "stableMoves", fn := fun _ => fun
  | [d1, d2, d3] => { results := [.lit (.bool false)], args := [d1, d2, d3] }
  | _ => none }
def StableMovesWrongFalsely : Prop := stableMovesRow.holds Try.pinned (OpenSpec.ofChange stableMovesWrong)

/-- 'folkmootlaw.SerialLocked': WHATEVER THE INPUT: true; the input reads as it did. -/
def serialLockedSpec : ChangeSpec := { name := "serialLocked", fn := fun _ => fun
  | [d] => { results := [.lit (.bool true)], args := [d] }
  | _ => none }
def serialLockedRow : OpenClaim := { program := "ytghnkehklnehlaa", sum := "1f4aba92613f5d64ecdf40e46c6c0b6080b49e56da4fb2b655b52b370fb568a0", func := "folkmoot/folkmootlaw.SerialLocked", spec := "serialLocked", apart := false }
def SerialLockedSaid : Prop := serialLockedRow.holds Try.pinned (OpenSpec.ofChange serialLockedSpec)

/-- ITS FALSE NEIGHBOUR: 'it returns false'. Refute it at one input. -/
def serialLockedWrong : ChangeSpec := { name := "serialLocked", fn := fun _ => fun
  | [d] => { results := [.lit (.bool false)], args := [d] }
  | _ => none }
def SerialLockedWrongFalsely : Prop := serialLockedRow.holds Try.pinned (OpenSpec.ofChange serialLockedWrong)

/-- 'folkmootlaw.SerialOrders': WHATEVER THE INPUT: true; the input reads as it did. -/
def serialOrdersSpec : ChangeSpec := { name := "serialOrders", fn := fun _ => fun
  | [d] => { results := [.lit (.bool true)], args := [d] }
  | _ => none }
def serialOrdersRow : OpenClaim := { program := "ytghnkehklnehlaa", sum := "1f4aba92613f5d64ecdf40e46c6c0b6080b49e56da4fb2b655b52b370fb568a0", func := "folkmoot/folkmootlaw.SerialOrders", spec := "serialOrders", apart := false }
def SerialOrdersSaid : Prop := serialOrdersRow.holds Try.pinned (OpenSpec.ofChange serialOrdersSpec)

/-- ITS FALSE NEIGHBOUR: 'it returns false'. Refute it at one input. -/
def serialOrdersWrong : ChangeSpec := { name := "serialOrders", fn := fun _ => fun
  | [d] => { results := [.lit (.bool false)], args := [d] }
  | _ => none }
def SerialOrdersWrongFalsely : Prop := serialOrdersRow.holds Try.pinned (OpenSpec.ofChange serialOrdersWrong)

/-- 'folkmootlaw.SerialReads': WHATEVER THE INPUT: true; the input reads as it did. -/
def serialReadsSpec : ChangeSpec := { name := "serialReads", fn := fun _ => fun
  | [d] => { results := [.lit (.bool true)], args := [d] }
  | _ => none }
def serialReadsRow : OpenClaim := { program := "ytghnkehklnehlaa", sum := "1f4aba92613f5d64ecdf40e46c6c0b6080b49e56da4fb2b655b52b370fb568a0", func := "folkmoot/folkmootlaw.SerialReads", spec := "serialReads", apart := false }
def SerialReadsSaid : Prop := serialReadsRow.holds Try.pinned (OpenSpec.ofChange serialReadsSpec)

/-- ITS FALSE NEIGHBOUR: 'it returns false'. Refute it at one input. -/
def serialReadsWrong : ChangeSpec := { name := "serialReads", fn := fun _ => fun
  | [d] => { results := [.lit (.bool false)], args := [d] }
  | _ => none }
def SerialReadsWrongFalsely : Prop := serialReadsRow.holds Try.pinned (OpenSpec.ofChange serialReadsWrong)

/-- 'folkmootlaw.WaitSelf': WHATEVER THE INPUT: true; the input reads as it did. -/
def waitSelfSpec : ChangeSpec := { name := "waitSelf", fn := fun _ => fun
  | [d1, d2, d3] => { results := [.lit (.bool true)], args := [d1, d2, d3] }
  | _ => none }
def waitSelfRow : OpenClaim := { program := "ytghnkehklnehlaa", sum := "1f4aba92613f5d64ecdf40e46c6c0b6080b49e56da4fb2b655b52b370fb568a0", func := "folkmoot/folkmootlaw.WaitSelf", spec := "waitSelf", unfollowed := true, recurses := true, apart := false }
def WaitSelfSaid : Prop := waitSelfRow.holds Try.pinned (OpenSpec.ofChange waitSelfSpec)

/-- ITS FALSE NEIGHBOUR: 'it returns false'. Refute it at one input. -/
def waitSelfWrong : ChangeSpec := { name := "waitSelf", fn := fun _ => fun
  | [d1, d2, d3] => { results := [.lit (.bool false)], args := [d1, d2, d3] }
  | _ => none }
def WaitSelfWrongFalsely : Prop := waitSelfRow.holds Try.pinned (OpenSpec.ofChange waitSelfWrong)

/-- 'folkmootlaw.WaitStuck': WHATEVER THE INPUT: true; the input reads as it did. -/
def waitStuckSpec : ChangeSpec := { name := "waitStuck", fn := fun _ => fun
  | [d1, d2] => { results := [.lit (.bool true)], args := [d1, d2] }
  | _ => none }
def waitStuckRow : OpenClaim := { program := "ytghnkehklnehlaa", sum := "1f4aba92613f5d64ecdf40e46c6c0b6080b49e56da4fb2b655b52b370fb568a0", func := "folkmoot/folkmootlaw.WaitStuck", spec := "waitStuck", unfollowed := true, recurses := true, apart := false }
def WaitStuckSaid : Prop := waitStuckRow.holds Try.pinned (OpenSpec.ofChange waitStuckSpec)

/-- ITS FALSE NEIGHBOUR: 'it returns false'. Refute it at one input. -/
def waitStuckWrong : ChangeSpec := { name := "waitStuck", fn := fun _ => fun
  | [d1, d2] => { results := [.lit (.bool false)], args := [d1, d2] }
  | _ => none }
def WaitStuckWrongFalsely : Prop := waitStuckRow.holds Try.pinned (OpenSpec.ofChange waitStuckWrong)

/- THE SECOND FORM. 'bulk': how many values and letters a reading holds, each counted each time it is reached (what is shared counts as often as it is met; a slice's spare places count too). A statement '..UptoSaid' is the law's where the arguments, and the package variables that the reading takes, are together of bulk at most 1048576: NARROWER than '..Said'. Prove '..Said' where nothing that the law and all that it calls make is longer than what came in: it says more and counts as full. Else prove '..UptoSaid'. A law counts once. -/
mutual
def uptoBulk {H : Type} : DataW H → Nat
  | .lit (.string bytes) => bytes.length + 1
  | .lit _ => 1
  | .nil => 1
  | .ptr d => uptoBulk d + 1
  | .slice elems spare => uptoBulkAll elems + uptoBulkAll spare + 1
  | .agg parts => uptoBulkAll parts + 1
  | .iface _ d => uptoBulk d + 1
  | .map entries => uptoBulkEntries entries + 1
  | .held _ => 1
def uptoBulkAll {H : Type} : List (DataW H) → Nat
  | [] => 0
  | d :: r => uptoBulk d + uptoBulkAll r
def uptoBulkEntries {H : Type} : List (Lit × DataW H) → Nat
  | [] => 0
  | x :: r => uptoBulkEntry x + uptoBulkEntries r
def uptoBulkEntry {H : Type} : Lit × DataW H → Nat
  | (.string bytes, d) => bytes.length + uptoBulk d + 1
  | (_, d) => uptoBulk d + 1
 end
def uptoSmall : (H : Type) → List (DataW H) → Bool := fun _ ds => decide (uptoBulkAll ds ≤ 1048576)
def OpenSpec.upto (s : _root_.Go.ChangeSpec) : _root_.Go.OpenSpec := { _root_.Go.OpenSpec.ofChange s with cond := some uptoSmall }

/-- 'folkmootlaw.ChainChecks', WHERE WHAT IT READS IS OF BULK AT MOST 1048576: true; the input reads as it did. -/
def chainChecksUptoRow : OpenClaim := { program := "ytghnkehklnehlaa", sum := "1f4aba92613f5d64ecdf40e46c6c0b6080b49e56da4fb2b655b52b370fb568a0", func := "folkmoot/folkmootlaw.ChainChecks", spec := "chainChecks", apart := false, narrowed := true }
def ChainChecksUptoSaid : Prop := chainChecksUptoRow.holds Try.pinned (OpenSpec.upto chainChecksSpec)

/-- 'folkmootlaw.ChainMeets', WHERE WHAT IT READS IS OF BULK AT MOST 1048576: true; the input reads as it did. -/
def chainMeetsUptoRow : OpenClaim := { program := "ytghnkehklnehlaa", sum := "1f4aba92613f5d64ecdf40e46c6c0b6080b49e56da4fb2b655b52b370fb568a0", func := "folkmoot/folkmootlaw.ChainMeets", spec := "chainMeets", recurses := true, apart := false, narrowed := true }
def ChainMeetsUptoSaid : Prop := chainMeetsUptoRow.holds Try.pinned (OpenSpec.upto chainMeetsSpec)

/-- 'folkmootlaw.ChainDecides', WHERE WHAT IT READS IS OF BULK AT MOST 1048576: true; the input reads as it did. -/
def chainDecidesUptoRow : OpenClaim := { program := "ytghnkehklnehlaa", sum := "1f4aba92613f5d64ecdf40e46c6c0b6080b49e56da4fb2b655b52b370fb568a0", func := "folkmoot/folkmootlaw.ChainDecides", spec := "chainDecides", unfollowed := true, recurses := true, apart := false, narrowed := true }
def ChainDecidesUptoSaid : Prop := chainDecidesUptoRow.holds Try.pinned (OpenSpec.upto chainDecidesSpec)

/-- 'folkmootlaw.ChainPaths', WHERE WHAT IT READS IS OF BULK AT MOST 1048576: true; the input reads as it did. -/
def chainPathsUptoRow : OpenClaim := { program := "ytghnkehklnehlaa", sum := "1f4aba92613f5d64ecdf40e46c6c0b6080b49e56da4fb2b655b52b370fb568a0", func := "folkmoot/folkmootlaw.ChainPaths", spec := "chainPaths", unfollowed := true, recurses := true, apart := false, narrowed := true }
def ChainPathsUptoSaid : Prop := chainPathsUptoRow.holds Try.pinned (OpenSpec.upto chainPathsSpec)

/-- 'folkmootlaw.StableChecks', WHERE WHAT IT READS IS OF BULK AT MOST 1048576: true; the input reads as it did. -/
def stableChecksUptoRow : OpenClaim := { program := "ytghnkehklnehlaa", sum := "1f4aba92613f5d64ecdf40e46c6c0b6080b49e56da4fb2b655b52b370fb568a0", func := "folkmoot/folkmootlaw.StableChecks", spec := "stableChecks", unfollowed := true, recurses := true, apart := false, narrowed := true }
def StableChecksUptoSaid : Prop := stableChecksUptoRow.holds Try.pinned (OpenSpec.upto stableChecksSpec)

/-- 'folkmootlaw.StableFrees', WHERE WHAT IT READS IS OF BULK AT MOST 1048576: true; the input reads as it did. -/
def stableFreesUptoRow : OpenClaim := { program := "ytghnkehklnehlaa", sum := "1f4aba92613f5d64ecdf40e46c6c0b6080b49e56da4fb2b655b52b370fb568a0", func := "folkmoot/folkmootlaw.StableFrees", spec := "stableFrees", unfollowed := true, recurses := true, apart := false, narrowed := true }
def StableFreesUptoSaid : Prop := stableFreesUptoRow.holds Try.pinned (OpenSpec.upto stableFreesSpec)

/-- 'folkmootlaw.StableMoves', WHERE WHAT IT READS IS OF BULK AT MOST 1048576: true; the input reads as it did. -/
def stableMovesUptoRow : OpenClaim := { program := "ytghnkehklnehlaa", sum := "1f4aba92613f5d64ecdf40e46c6c0b6080b49e56da4fb2b655b52b370fb568a0", func := "folkmoot/folkmootlaw.StableMoves", spec := "stableMoves", unfollowed := true, recurses := true, apart := false, narrowed := true }
def StableMovesUptoSaid : Prop := stableMovesUptoRow.holds Try.pinned (OpenSpec.upto stableMovesSpec)

/-- 'folkmootlaw.SerialLocked', WHERE WHAT IT READS IS OF BULK AT MOST 1048576: true; the input reads as it did. -/
def serialLockedUptoRow : OpenClaim := { program := "ytghnkehklnehlaa", sum := "1f4aba92613f5d64ecdf40e46c6c0b6080b49e56da4fb2b655b52b370fb568a0", func := "folkmoot/folkmootlaw.SerialLocked", spec := "serialLocked", apart := false, narrowed := true }
def SerialLockedUptoSaid : Prop := serialLockedUptoRow.holds Try.pinned (OpenSpec.upto serialLockedSpec)

/-- 'folkmootlaw.SerialOrders', WHERE WHAT IT READS IS OF BULK AT MOST 1048576: true; the input reads as it did. -/
def serialOrdersUptoRow : OpenClaim := { program := "ytghnkehklnehlaa", sum := "1f4aba92613f5d64ecdf40e46c6c0b6080b49e56da4fb2b655b52b370fb568a0", func := "folkmoot/folkmootlaw.SerialOrders", spec := "serialOrders", apart := false, narrowed := true }
def SerialOrdersUptoSaid : Prop := serialOrdersUptoRow.holds Try.pinned (OpenSpec.upto serialOrdersSpec)

/-- 'folkmootlaw.SerialReads', WHERE WHAT IT READS IS OF BULK AT MOST 1048576: true; the input reads as it did. -/
def serialReadsUptoRow : OpenClaim := { program := "ytghnkehklnehlaa", sum := "1f4aba92613f5d64ecdf40e46c6c0b6080b49e56da4fb2b655b52b370fb568a0", func := "folkmoot/folkmootlaw.SerialReads", spec := "serialReads", apart := false, narrowed := true }
def SerialReadsUptoSaid : Prop := serialReadsUptoRow.holds Try.pinned (OpenSpec.upto serialReadsSpec)

/-- 'folkmootlaw.WaitSelf', WHERE WHAT IT READS IS OF BULK AT MOST 1048576: true; the input reads as it did. -/
def waitSelfUptoRow : OpenClaim := { program := "ytghnkehklnehlaa", sum := "1f4aba92613f5d64ecdf40e46c6c0b6080b49e56da4fb2b655b52b370fb568a0", func := "folkmoot/folkmootlaw.WaitSelf", spec := "waitSelf", unfollowed := true, recurses := true, apart := false, narrowed := true }
def WaitSelfUptoSaid : Prop := waitSelfUptoRow.holds Try.pinned (OpenSpec.upto waitSelfSpec)

/-- 'folkmootlaw.WaitStuck', WHERE WHAT IT READS IS OF BULK AT MOST 1048576: true; the input reads as it did. -/
def waitStuckUptoRow : OpenClaim := { program := "ytghnkehklnehlaa", sum := "1f4aba92613f5d64ecdf40e46c6c0b6080b49e56da4fb2b655b52b370fb568a0", func := "folkmoot/folkmootlaw.WaitStuck", spec := "waitStuck", unfollowed := true, recurses := true, apart := false, narrowed := true }
def WaitStuckUptoSaid : Prop := waitStuckUptoRow.holds Try.pinned (OpenSpec.upto waitStuckSpec)

end Rows
end Go.Proofs.Ytghnkehklnehlaa
