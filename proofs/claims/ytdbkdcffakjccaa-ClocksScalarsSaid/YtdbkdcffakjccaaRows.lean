/-
  No cell of these rows narrows 'for every input' (looked for: loops, veiled, ifaces, maps, wideKeys, modest, calm, conditions, laid).
  DERIVED. THE GIVEN ROWS OF THIS SEAT. 12 by the template 'for every input the law returns true; each argument reads behind the call as it read before'; 0 by the template 'total and deterministic' (their statements: YtdbkdcffakjccaaTotals.lean).
  GIVEN WITH THE SEED: the statements are not yours to turn. If you find one false, say at which input.
  Laid BY PROGRAM, IN A SANDBOX (cutbox-rows.mjs): the forced cells as the released guide's own fill.sh prints them over the translation 6ce0e01390b78962… (all of the seat's roots in one cut). By AI agents, Wed Nov 11 2026. No macro, syntax, notation, axiom, sorry.
-/
import Derived.Test.YtdbkdcffakjccaaChecked
import GoSem.Claim
import GoSem.ClaimJoined
import GoSem.ClaimMapViews
import Derived.JoinedTies
import Derived.KernelRfl
namespace Go.Proofs.Ytdbkdcffakjccaa
/- THE CELL 'sum', in the pinned program and in every row, IS THE sha256 OF THE DUMP (.gsa) THAT YtdbkdcffakjccaaProg.lean LOADS. Nothing in Lean hashes anything: it is a label: what it is worth is what the hold of that sum in a sandbox is worth. -/
noncomputable def Try.pinned : Pinned := { name := "ytdbkdcffakjccaa", sum := "6ce0e01390b7896200b11906189153aed224893788a71d814344d4a224858e65", checked := Try.checked }
namespace Rows
def none {H : Type} : Left H := { results := [], args := [] }

/-- 'folkmootlaw.StableChecks': WHATEVER THE INPUT: true; the input reads as it did. -/
def stableChecksSpec : ChangeSpec := { name := "stableChecks", fn := fun _ => fun
  | [d1, d2] => { results := [.lit (.bool true)], args := [d1, d2] }
  | _ => none }
def stableChecksRow : OpenClaim := { program := "ytdbkdcffakjccaa", sum := "6ce0e01390b7896200b11906189153aed224893788a71d814344d4a224858e65", func := "folkmoot/folkmootlaw.StableChecks", spec := "stableChecks", unfollowed := true, recurses := true, apart := false }
def StableChecksSaid : Prop := stableChecksRow.holds Try.pinned (OpenSpec.ofChange stableChecksSpec)

/-- ITS FALSE NEIGHBOUR: 'it returns false'. Refute it at one input. -/
def stableChecksWrong : ChangeSpec := { name := "stableChecks", fn := fun _ => fun
  | [d1, d2] => { results := [.lit (.bool false)], args := [d1, d2] }
  | _ => none }
def StableChecksWrongFalsely : Prop := stableChecksRow.holds Try.pinned (OpenSpec.ofChange stableChecksWrong)

/-- 'folkmootlaw.ClocksChecks': WHATEVER THE INPUT: true; the input reads as it did. -/
def clocksChecksSpec : ChangeSpec := { name := "clocksChecks", fn := fun _ => fun
  | [d1, d2] => { results := [.lit (.bool true)], args := [d1, d2] }
  | _ => none }
def clocksChecksRow : OpenClaim := { program := "ytdbkdcffakjccaa", sum := "6ce0e01390b7896200b11906189153aed224893788a71d814344d4a224858e65", func := "folkmoot/folkmootlaw.ClocksChecks", spec := "clocksChecks", apart := false }
def ClocksChecksSaid : Prop := clocksChecksRow.holds Try.pinned (OpenSpec.ofChange clocksChecksSpec)

/-- ITS FALSE NEIGHBOUR: 'it returns false'. Refute it at one input. -/
def clocksChecksWrong : ChangeSpec := { name := "clocksChecks", fn := fun _ => fun
  | [d1, d2] => { results := [.lit (.bool false)], args := [d1, d2] }
  | _ => none }
def ClocksChecksWrongFalsely : Prop := clocksChecksRow.holds Try.pinned (OpenSpec.ofChange clocksChecksWrong)

/-- 'folkmootlaw.ChainMeets': WHATEVER THE INPUT: true; the input reads as it did. -/
def chainMeetsSpec : ChangeSpec := { name := "chainMeets", fn := fun _ => fun
  | [d1, d2, d3] => { results := [.lit (.bool true)], args := [d1, d2, d3] }
  | _ => none }
def chainMeetsRow : OpenClaim := { program := "ytdbkdcffakjccaa", sum := "6ce0e01390b7896200b11906189153aed224893788a71d814344d4a224858e65", func := "folkmoot/folkmootlaw.ChainMeets", spec := "chainMeets", recurses := true, apart := false }
def ChainMeetsSaid : Prop := chainMeetsRow.holds Try.pinned (OpenSpec.ofChange chainMeetsSpec)

/-- ITS FALSE NEIGHBOUR: 'it returns false'. Refute it at one input. -/
def chainMeetsWrong : ChangeSpec := { name := "chainMeets", fn := fun _ => fun
  | [d1, d2, d3] => { results := [.lit (.bool false)], args := [d1, d2, d3] }
  | _ => none }
def ChainMeetsWrongFalsely : Prop := chainMeetsRow.holds Try.pinned (OpenSpec.ofChange chainMeetsWrong)

/-- 'folkmootlaw.SerialLocked': WHATEVER THE INPUT: true; the input reads as it did. -/
def serialLockedSpec : ChangeSpec := { name := "serialLocked", fn := fun _ => fun
  | [d] => { results := [.lit (.bool true)], args := [d] }
  | _ => none }
def serialLockedRow : OpenClaim := { program := "ytdbkdcffakjccaa", sum := "6ce0e01390b7896200b11906189153aed224893788a71d814344d4a224858e65", func := "folkmoot/folkmootlaw.SerialLocked", spec := "serialLocked", apart := false }
def SerialLockedSaid : Prop := serialLockedRow.holds Try.pinned (OpenSpec.ofChange serialLockedSpec)

/-- ITS FALSE NEIGHBOUR: 'it returns false'. Refute it at one input. -/
def serialLockedWrong : ChangeSpec := { name := "serialLocked", fn := fun _ => fun
  | [d] => { results := [.lit (.bool false)], args := [d] }
  | _ => none }
def SerialLockedWrongFalsely : Prop := serialLockedRow.holds Try.pinned (OpenSpec.ofChange serialLockedWrong)

/-- 'folkmootlaw.StableFrees': WHATEVER THE INPUT: true; the input reads as it did. -/
def stableFreesSpec : ChangeSpec := { name := "stableFrees", fn := fun _ => fun
  | [d1, d2] => { results := [.lit (.bool true)], args := [d1, d2] }
  | _ => none }
def stableFreesRow : OpenClaim := { program := "ytdbkdcffakjccaa", sum := "6ce0e01390b7896200b11906189153aed224893788a71d814344d4a224858e65", func := "folkmoot/folkmootlaw.StableFrees", spec := "stableFrees", unfollowed := true, recurses := true, apart := false }
def StableFreesSaid : Prop := stableFreesRow.holds Try.pinned (OpenSpec.ofChange stableFreesSpec)

/-- ITS FALSE NEIGHBOUR: 'it returns false'. Refute it at one input. -/
def stableFreesWrong : ChangeSpec := { name := "stableFrees", fn := fun _ => fun
  | [d1, d2] => { results := [.lit (.bool false)], args := [d1, d2] }
  | _ => none }
def StableFreesWrongFalsely : Prop := stableFreesRow.holds Try.pinned (OpenSpec.ofChange stableFreesWrong)

/-- 'folkmootlaw.ChainDecides': WHATEVER THE INPUT: true; the input reads as it did. -/
def chainDecidesSpec : ChangeSpec := { name := "chainDecides", fn := fun _ => fun
  | [d1, d2] => { results := [.lit (.bool true)], args := [d1, d2] }
  | _ => none }
def chainDecidesRow : OpenClaim := { program := "ytdbkdcffakjccaa", sum := "6ce0e01390b7896200b11906189153aed224893788a71d814344d4a224858e65", func := "folkmoot/folkmootlaw.ChainDecides", spec := "chainDecides", unfollowed := true, recurses := true, apart := false }
def ChainDecidesSaid : Prop := chainDecidesRow.holds Try.pinned (OpenSpec.ofChange chainDecidesSpec)

/-- ITS FALSE NEIGHBOUR: 'it returns false'. Refute it at one input. -/
def chainDecidesWrong : ChangeSpec := { name := "chainDecides", fn := fun _ => fun
  | [d1, d2] => { results := [.lit (.bool false)], args := [d1, d2] }
  | _ => none }
def ChainDecidesWrongFalsely : Prop := chainDecidesRow.holds Try.pinned (OpenSpec.ofChange chainDecidesWrong)

/-- 'folkmootlaw.QuorumChecks': WHATEVER THE INPUT: true; the input reads as it did. -/
def quorumChecksSpec : ChangeSpec := { name := "quorumChecks", fn := fun _ => fun
  | [d1, d2] => { results := [.lit (.bool true)], args := [d1, d2] }
  | _ => none }
def quorumChecksRow : OpenClaim := { program := "ytdbkdcffakjccaa", sum := "6ce0e01390b7896200b11906189153aed224893788a71d814344d4a224858e65", func := "folkmoot/folkmootlaw.QuorumChecks", spec := "quorumChecks", unfollowed := true, recurses := true, apart := false }
def QuorumChecksSaid : Prop := quorumChecksRow.holds Try.pinned (OpenSpec.ofChange quorumChecksSpec)

/-- ITS FALSE NEIGHBOUR: 'it returns false'. Refute it at one input. -/
def quorumChecksWrong : ChangeSpec := { name := "quorumChecks", fn := fun _ => fun
  | [d1, d2] => { results := [.lit (.bool false)], args := [d1, d2] }
  | _ => none }
def QuorumChecksWrongFalsely : Prop := quorumChecksRow.holds Try.pinned (OpenSpec.ofChange quorumChecksWrong)

/-- 'folkmootlaw.ChainPaths': WHATEVER THE INPUT: true; the input reads as it did. -/
def chainPathsSpec : ChangeSpec := { name := "chainPaths", fn := fun _ => fun
  | [d1, d2] => { results := [.lit (.bool true)], args := [d1, d2] }
  | _ => none }
def chainPathsRow : OpenClaim := { program := "ytdbkdcffakjccaa", sum := "6ce0e01390b7896200b11906189153aed224893788a71d814344d4a224858e65", func := "folkmoot/folkmootlaw.ChainPaths", spec := "chainPaths", unfollowed := true, recurses := true, apart := false }
def ChainPathsSaid : Prop := chainPathsRow.holds Try.pinned (OpenSpec.ofChange chainPathsSpec)

/-- ITS FALSE NEIGHBOUR: 'it returns false'. Refute it at one input. -/
def chainPathsWrong : ChangeSpec := { name := "chainPaths", fn := fun _ => fun
  | [d1, d2] => { results := [.lit (.bool false)], args := [d1, d2] }
  | _ => none }
def ChainPathsWrongFalsely : Prop := chainPathsRow.holds Try.pinned (OpenSpec.ofChange chainPathsWrong)

/-- 'folkmootlaw.KingPlays': WHATEVER THE INPUT: true; the input reads as it did. -/
def kingPlaysSpec : ChangeSpec := { name := "kingPlays", fn := fun _ => fun
  | [d1, d2, d3, d4, d5] => { results := [.lit (.bool true)], args := [d1, d2, d3, d4, d5] }
  | _ => none }
def kingPlaysRow : OpenClaim := { program := "ytdbkdcffakjccaa", sum := "6ce0e01390b7896200b11906189153aed224893788a71d814344d4a224858e65", func := "folkmoot/folkmootlaw.KingPlays", spec := "kingPlays", apart := false }
def KingPlaysSaid : Prop := kingPlaysRow.holds Try.pinned (OpenSpec.ofChange kingPlaysSpec)

/-- ITS FALSE NEIGHBOUR: 'it returns false'. Refute it at one input. -/
def kingPlaysWrong : ChangeSpec := { name := "kingPlays", fn := fun _ => fun
  | [d1, d2, d3, d4, d5] => { results := [.lit (.bool false)], args := [d1, d2, d3, d4, d5] }
  | _ => none }
def KingPlaysWrongFalsely : Prop := kingPlaysRow.holds Try.pinned (OpenSpec.ofChange kingPlaysWrong)

/-- 'folkmootlaw.ClocksScalars': WHATEVER THE INPUT: true; the input reads as it did. -/
def clocksScalarsSpec : ChangeSpec := { name := "clocksScalars", fn := fun _ => fun
  | [d1, d2] => { results := [.lit (.bool true)], args := [d1, d2] }
  | _ => none }
def clocksScalarsRow : OpenClaim := { program := "ytdbkdcffakjccaa", sum := "6ce0e01390b7896200b11906189153aed224893788a71d814344d4a224858e65", func := "folkmoot/folkmootlaw.ClocksScalars", spec := "clocksScalars", unfollowed := true, recurses := true, apart := false }
def ClocksScalarsSaid : Prop := clocksScalarsRow.holds Try.pinned (OpenSpec.ofChange clocksScalarsSpec)

/-- ITS FALSE NEIGHBOUR: 'it returns false'. Refute it at one input. -/
def clocksScalarsWrong : ChangeSpec := { name := "clocksScalars", fn := fun _ => fun
  | [d1, d2] => { results := [.lit (.bool false)], args := [d1, d2] }
  | _ => none }
def ClocksScalarsWrongFalsely : Prop := clocksScalarsRow.holds Try.pinned (OpenSpec.ofChange clocksScalarsWrong)

/-- 'folkmootlaw.StableMoves': WHATEVER THE INPUT: true; the input reads as it did. -/
def stableMovesSpec : ChangeSpec := { name := "stableMoves", fn := fun _ => fun
  | [d1, d2, d3] => { results := [.lit (.bool true)], args := [d1, d2, d3] }
  | _ => none }
def stableMovesRow : OpenClaim := { program := "ytdbkdcffakjccaa", sum := "6ce0e01390b7896200b11906189153aed224893788a71d814344d4a224858e65", func := "folkmoot/folkmootlaw.StableMoves", spec := "stableMoves", unfollowed := true, recurses := true, apart := false }
def StableMovesSaid : Prop := stableMovesRow.holds Try.pinned (OpenSpec.ofChange stableMovesSpec)

/-- ITS FALSE NEIGHBOUR: 'it returns false'. Refute it at one input. -/
def stableMovesWrong : ChangeSpec := { name := "stableMoves", fn := fun _ => fun
  | [d1, d2, d3] => { results := [.lit (.bool false)], args := [d1, d2, d3] }
  | _ => none }
def StableMovesWrongFalsely : Prop := stableMovesRow.holds Try.pinned (OpenSpec.ofChange stableMovesWrong)

/-- 'folkmootlaw.WaitSelf': WHATEVER THE INPUT: true; the input reads as it did. -/
def waitSelfSpec : ChangeSpec := { name := "waitSelf", fn := fun _ => fun
  | [d1, d2, d3] => { results := [.lit (.bool true)], args := [d1, d2, d3] }
  | _ => none }
def waitSelfRow : OpenClaim := { program := "ytdbkdcffakjccaa", sum := "6ce0e01390b7896200b11906189153aed224893788a71d814344d4a224858e65", func := "folkmoot/folkmootlaw.WaitSelf", spec := "waitSelf", unfollowed := true, recurses := true, apart := false }
def WaitSelfSaid : Prop := waitSelfRow.holds Try.pinned (OpenSpec.ofChange waitSelfSpec)

/-- ITS FALSE NEIGHBOUR: 'it returns false'. Refute it at one input. -/
def waitSelfWrong : ChangeSpec := { name := "waitSelf", fn := fun _ => fun
  | [d1, d2, d3] => { results := [.lit (.bool false)], args := [d1, d2, d3] }
  | _ => none }
def WaitSelfWrongFalsely : Prop := waitSelfRow.holds Try.pinned (OpenSpec.ofChange waitSelfWrong)

/- THE SECOND FORM. 'bulk': how many values and letters a reading holds, each counted each time it is reached (what is shared counts as often as it is met; a slice's spare places count too). A statement '..UptoSaid' is the law's where the arguments, and the package variables that the reading takes, are together of bulk at most 1048576: NARROWER than '..Said'. Prove '..Said' where nothing that the law and all that it calls make is longer than what came in: it says more and counts as full. Else prove '..UptoSaid'. A law counts once. -/
mutual
def uptoBulk {H : Type} : DataW H → Nat
  | .lit (.string bytes) => bytes.length + 1
  | .lit _ => 1
  | .nil => 1
  | .ptr d => uptoBulk d + 1
  | .slice elems spare => uptoBulkAll elems + uptoBulkAll spare + 1
  | .agg parts => uptoBulkAll parts + 1
  | .iface _ d => uptoBulk d + 1
  | .map entries => uptoBulkEntries entries + 1
  | .held _ => 1
def uptoBulkAll {H : Type} : List (DataW H) → Nat
  | [] => 0
  | d :: r => uptoBulk d + uptoBulkAll r
def uptoBulkEntries {H : Type} : List (Lit × DataW H) → Nat
  | [] => 0
  | x :: r => uptoBulkEntry x + uptoBulkEntries r
def uptoBulkEntry {H : Type} : Lit × DataW H → Nat
  | (.string bytes, d) => bytes.length + uptoBulk d + 1
  | (_, d) => uptoBulk d + 1
 end
def uptoSmall : (H : Type) → List (DataW H) → Bool := fun _ ds => decide (uptoBulkAll ds ≤ 1048576)
def OpenSpec.upto (s : _root_.Go.ChangeSpec) : _root_.Go.OpenSpec := { _root_.Go.OpenSpec.ofChange s with cond := some uptoSmall }

/-- 'folkmootlaw.StableChecks', WHERE WHAT IT READS IS OF BULK AT MOST 1048576: true; the input reads as it did. -/
def stableChecksUptoRow : OpenClaim := { program := "ytdbkdcffakjccaa", sum := "6ce0e01390b7896200b11906189153aed224893788a71d814344d4a224858e65", func := "folkmoot/folkmootlaw.StableChecks", spec := "stableChecks", unfollowed := true, recurses := true, apart := false, narrowed := true }
def StableChecksUptoSaid : Prop := stableChecksUptoRow.holds Try.pinned (OpenSpec.upto stableChecksSpec)

/-- 'folkmootlaw.ClocksChecks', WHERE WHAT IT READS IS OF BULK AT MOST 1048576: true; the input reads as it did. -/
def clocksChecksUptoRow : OpenClaim := { program := "ytdbkdcffakjccaa", sum := "6ce0e01390b7896200b11906189153aed224893788a71d814344d4a224858e65", func := "folkmoot/folkmootlaw.ClocksChecks", spec := "clocksChecks", apart := false, narrowed := true }
def ClocksChecksUptoSaid : Prop := clocksChecksUptoRow.holds Try.pinned (OpenSpec.upto clocksChecksSpec)

/-- 'folkmootlaw.ChainMeets', WHERE WHAT IT READS IS OF BULK AT MOST 1048576: true; the input reads as it did. -/
def chainMeetsUptoRow : OpenClaim := { program := "ytdbkdcffakjccaa", sum := "6ce0e01390b7896200b11906189153aed224893788a71d814344d4a224858e65", func := "folkmoot/folkmootlaw.ChainMeets", spec := "chainMeets", recurses := true, apart := false, narrowed := true }
def ChainMeetsUptoSaid : Prop := chainMeetsUptoRow.holds Try.pinned (OpenSpec.upto chainMeetsSpec)

/-- 'folkmootlaw.SerialLocked', WHERE WHAT IT READS IS OF BULK AT MOST 1048576: true; the input reads as it did. -/
def serialLockedUptoRow : OpenClaim := { program := "ytdbkdcffakjccaa", sum := "6ce0e01390b7896200b11906189153aed224893788a71d814344d4a224858e65", func := "folkmoot/folkmootlaw.SerialLocked", spec := "serialLocked", apart := false, narrowed := true }
def SerialLockedUptoSaid : Prop := serialLockedUptoRow.holds Try.pinned (OpenSpec.upto serialLockedSpec)

/-- 'folkmootlaw.StableFrees', WHERE WHAT IT READS IS OF BULK AT MOST 1048576: true; the input reads as it did. -/
def stableFreesUptoRow : OpenClaim := { program := "ytdbkdcffakjccaa", sum := "6ce0e01390b7896200b11906189153aed224893788a71d814344d4a224858e65", func := "folkmoot/folkmootlaw.StableFrees", spec := "stableFrees", unfollowed := true, recurses := true, apart := false, narrowed := true }
def StableFreesUptoSaid : Prop := stableFreesUptoRow.holds Try.pinned (OpenSpec.upto stableFreesSpec)

/-- 'folkmootlaw.ChainDecides', WHERE WHAT IT READS IS OF BULK AT MOST 1048576: true; the input reads as it did. -/
def chainDecidesUptoRow : OpenClaim := { program := "ytdbkdcffakjccaa", sum := "6ce0e01390b7896200b11906189153aed224893788a71d814344d4a224858e65", func := "folkmoot/folkmootlaw.ChainDecides", spec := "chainDecides", unfollowed := true, recurses := true, apart := false, narrowed := true }
def ChainDecidesUptoSaid : Prop := chainDecidesUptoRow.holds Try.pinned (OpenSpec.upto chainDecidesSpec)

/-- 'folkmootlaw.QuorumChecks', WHERE WHAT IT READS IS OF BULK AT MOST 1048576: true; the input reads as it did. -/
def quorumChecksUptoRow : OpenClaim := { program := "ytdbkdcffakjccaa", sum := "6ce0e01390b7896200b11906189153aed224893788a71d814344d4a224858e65", func := "folkmoot/folkmootlaw.QuorumChecks", spec := "quorumChecks", unfollowed := true, recurses := true, apart := false, narrowed := true }
def QuorumChecksUptoSaid : Prop := quorumChecksUptoRow.holds Try.pinned (OpenSpec.upto quorumChecksSpec)

/-- 'folkmootlaw.ChainPaths', WHERE WHAT IT READS IS OF BULK AT MOST 1048576: true; the input reads as it did. -/
def chainPathsUptoRow : OpenClaim := { program := "ytdbkdcffakjccaa", sum := "6ce0e01390b7896200b11906189153aed224893788a71d814344d4a224858e65", func := "folkmoot/folkmootlaw.ChainPaths", spec := "chainPaths", unfollowed := true, recurses := true, apart := false, narrowed := true }
def ChainPathsUptoSaid : Prop := chainPathsUptoRow.holds Try.pinned (OpenSpec.upto chainPathsSpec)

/-- 'folkmootlaw.KingPlays', WHERE WHAT IT READS IS OF BULK AT MOST 1048576: true; the input reads as it did. -/
def kingPlaysUptoRow : OpenClaim := { program := "ytdbkdcffakjccaa", sum := "6ce0e01390b7896200b11906189153aed224893788a71d814344d4a224858e65", func := "folkmoot/folkmootlaw.KingPlays", spec := "kingPlays", apart := false, narrowed := true }
def KingPlaysUptoSaid : Prop := kingPlaysUptoRow.holds Try.pinned (OpenSpec.upto kingPlaysSpec)

/-- 'folkmootlaw.ClocksScalars', WHERE WHAT IT READS IS OF BULK AT MOST 1048576: true; the input reads as it did. -/
def clocksScalarsUptoRow : OpenClaim := { program := "ytdbkdcffakjccaa", sum := "6ce0e01390b7896200b11906189153aed224893788a71d814344d4a224858e65", func := "folkmoot/folkmootlaw.ClocksScalars", spec := "clocksScalars", unfollowed := true, recurses := true, apart := false, narrowed := true }
def ClocksScalarsUptoSaid : Prop := clocksScalarsUptoRow.holds Try.pinned (OpenSpec.upto clocksScalarsSpec)

/-- 'folkmootlaw.StableMoves', WHERE WHAT IT READS IS OF BULK AT MOST 1048576: true; the input reads as it did. -/
def stableMovesUptoRow : OpenClaim := { program := "ytdbkdcffakjccaa", sum := "6ce0e01390b7896200b11906189153aed224893788a71d814344d4a224858e65", func := "folkmoot/folkmootlaw.StableMoves", spec := "stableMoves", unfollowed := true, recurses := true, apart := false, narrowed := true }
def StableMovesUptoSaid : Prop := stableMovesUptoRow.holds Try.pinned (OpenSpec.upto stableMovesSpec)

/-- 'folkmootlaw.WaitSelf', WHERE WHAT IT READS IS OF BULK AT MOST 1048576: true; the input reads as it did. -/
def waitSelfUptoRow : OpenClaim := { program := "ytdbkdcffakjccaa", sum := "6ce0e01390b7896200b11906189153aed224893788a71d814344d4a224858e65", func := "folkmoot/folkmootlaw.WaitSelf", spec := "waitSelf", unfollowed := true, recurses := true, apart := false, narrowed := true }
def WaitSelfUptoSaid : Prop := waitSelfUptoRow.holds Try.pinned (OpenSpec.upto waitSelfSpec)

end Rows
end Go.Proofs.Ytdbkdcffakjccaa
