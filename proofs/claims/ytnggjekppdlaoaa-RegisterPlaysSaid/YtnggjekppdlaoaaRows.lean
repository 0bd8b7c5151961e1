/-
  No cell of these rows narrows 'for every input' (looked for: loops, veiled, ifaces, maps, wideKeys, modest, calm, conditions, laid).
  DERIVED. THE GIVEN ROWS OF THIS SEAT. 5 by the template 'for every input the law returns true; each argument reads behind the call as it read before'; 0 by the template 'total and deterministic' (their statements: YtnggjekppdlaoaaTotals.lean).
  GIVEN WITH THE SEED: the statements are not yours to turn. If you find one false, say at which input.
  Laid BY PROGRAM, IN A SANDBOX (cutbox-rows.mjs): the forced cells as the released guide's own fill.sh prints them over the translation e6c63dd489769ce2… (all of the seat's roots in one cut). By AI agents, Wed Nov 11 2026. No macro, syntax, notation, axiom, sorry.
-/
import Derived.Test.YtnggjekppdlaoaaChecked
import GoSem.Claim
import GoSem.ClaimJoined
import GoSem.ClaimMapViews
import Derived.JoinedTies
import Derived.KernelRfl
namespace Go.Proofs.Ytnggjekppdlaoaa
/- THE CELL 'sum', in the pinned program and in every row, IS THE sha256 OF THE DUMP (.gsa) THAT YtnggjekppdlaoaaProg.lean LOADS. Nothing in Lean hashes anything: it is a label: what it is worth is what the hold of that sum in a sandbox is worth. -/
noncomputable def Try.pinned : Pinned := { name := "ytnggjekppdlaoaa", sum := "e6c63dd489769ce2c77f7eb0cf9806d34d2ba31dd926ff89b6e2be3419788b4c", checked := Try.checked }
namespace Rows
def none {H : Type} : Left H := { results := [], args := [] }

/-- 'folkmootlaw.BakeryPlays': WHATEVER THE INPUT: true; the input reads as it did. -/
def bakeryPlaysSpec : ChangeSpec := { name := "bakeryPlays", fn := fun _ => fun
  | [d1, d2] => { results := [.lit (.bool true)], args := [d1, d2] }
  | _ => none }
def bakeryPlaysRow : OpenClaim := { program := "ytnggjekppdlaoaa", sum := "e6c63dd489769ce2c77f7eb0cf9806d34d2ba31dd926ff89b6e2be3419788b4c", func := "folkmoot/folkmootlaw.BakeryPlays", spec := "bakeryPlays", unfollowed := true, recurses := true, plainKeys := false, apart := false }
def BakeryPlaysSaid : Prop := bakeryPlaysRow.holds Try.pinned (OpenSpec.ofChange bakeryPlaysSpec)

/-- ITS FALSE NEIGHBOUR: 'it returns false'. Refute it at one input. -/
def bakeryPlaysWrong : ChangeSpec := { name := "bakeryPlays", fn := fun _ => fun
  | [d1, d2] => { results := [.lit (.bool false)], args := [d1, d2] }
  | _ => none }
def BakeryPlaysWrongFalsely : Prop := bakeryPlaysRow.holds Try.pinned (OpenSpec.ofChange bakeryPlaysWrong)

/-- 'folkmootlaw.BrachaPlays': WHATEVER THE INPUT: true; the input reads as it did. -/
def brachaPlaysSpec : ChangeSpec := { name := "brachaPlays", fn := fun _ => fun
  | [d1, d2, d3, d4, d5] => { results := [.lit (.bool true)], args := [d1, d2, d3, d4, d5] }
  | _ => none }
def brachaPlaysRow : OpenClaim := { program := "ytnggjekppdlaoaa", sum := "e6c63dd489769ce2c77f7eb0cf9806d34d2ba31dd926ff89b6e2be3419788b4c", func := "folkmoot/folkmootlaw.BrachaPlays", spec := "brachaPlays", unfollowed := true, recurses := true, plainKeys := false, apart := false }
def BrachaPlaysSaid : Prop := brachaPlaysRow.holds Try.pinned (OpenSpec.ofChange brachaPlaysSpec)

/-- ITS FALSE NEIGHBOUR: 'it returns false'. Refute it at one input. -/
def brachaPlaysWrong : ChangeSpec := { name := "brachaPlays", fn := fun _ => fun
  | [d1, d2, d3, d4, d5] => { results := [.lit (.bool false)], args := [d1, d2, d3, d4, d5] }
  | _ => none }
def BrachaPlaysWrongFalsely : Prop := brachaPlaysRow.holds Try.pinned (OpenSpec.ofChange brachaPlaysWrong)

/-- 'folkmootlaw.MootPlays': WHATEVER THE INPUT: true; the input reads as it did. -/
def mootPlaysSpec : ChangeSpec := { name := "mootPlays", fn := fun _ => fun
  | [d1, d2, d3, d4] => { results := [.lit (.bool true)], args := [d1, d2, d3, d4] }
  | _ => none }
def mootPlaysRow : OpenClaim := { program := "ytnggjekppdlaoaa", sum := "e6c63dd489769ce2c77f7eb0cf9806d34d2ba31dd926ff89b6e2be3419788b4c", func := "folkmoot/folkmootlaw.MootPlays", spec := "mootPlays", unfollowed := true, recurses := true, plainKeys := false, apart := false }
def MootPlaysSaid : Prop := mootPlaysRow.holds Try.pinned (OpenSpec.ofChange mootPlaysSpec)

/-- ITS FALSE NEIGHBOUR: 'it returns false'. Refute it at one input. -/
def mootPlaysWrong : ChangeSpec := { name := "mootPlays", fn := fun _ => fun
  | [d1, d2, d3, d4] => { results := [.lit (.bool false)], args := [d1, d2, d3, d4] }
  | _ => none }
def MootPlaysWrongFalsely : Prop := mootPlaysRow.holds Try.pinned (OpenSpec.ofChange mootPlaysWrong)

/-- 'folkmootlaw.RegisterPlays': WHATEVER THE INPUT: true; the input reads as it did. -/
def registerPlaysSpec : ChangeSpec := { name := "registerPlays", fn := fun _ => fun
  | [d1, d2] => { results := [.lit (.bool true)], args := [d1, d2] }
  | _ => none }
def registerPlaysRow : OpenClaim := { program := "ytnggjekppdlaoaa", sum := "e6c63dd489769ce2c77f7eb0cf9806d34d2ba31dd926ff89b6e2be3419788b4c", func := "folkmoot/folkmootlaw.RegisterPlays", spec := "registerPlays", plainKeys := false, apart := false }
def RegisterPlaysSaid : Prop := registerPlaysRow.holds Try.pinned (OpenSpec.ofChange registerPlaysSpec)

/-- ITS FALSE NEIGHBOUR: 'it returns false'. Refute it at one input. -/
def registerPlaysWrong : ChangeSpec := { name := "registerPlays", fn := fun _ => fun
  | [d1, d2] => { results := [.lit (.bool false)], args := [d1, d2] }
  | _ => none }
def RegisterPlaysWrongFalsely : Prop := registerPlaysRow.holds Try.pinned (OpenSpec.ofChange registerPlaysWrong)

/-- 'folkmootlaw.CausalPlays': WHATEVER THE INPUT: true; the input reads as it did. -/
def causalPlaysSpec : ChangeSpec := { name := "causalPlays", fn := fun _ => fun
  | [d1, d2] => { results := [.lit (.bool true)], args := [d1, d2] }
  | _ => none }
def causalPlaysRow : OpenClaim := { program := "ytnggjekppdlaoaa", sum := "e6c63dd489769ce2c77f7eb0cf9806d34d2ba31dd926ff89b6e2be3419788b4c", func := "folkmoot/folkmootlaw.CausalPlays", spec := "causalPlays", inPlace := ["slices.overlaps[int]"], unfollowed := true, recurses := true, plainKeys := false, apart := false }
def CausalPlaysSaid : Prop := causalPlaysRow.holds Try.pinned (OpenSpec.ofChange causalPlaysSpec)

/-- ITS FALSE NEIGHBOUR: 'it returns false'. Refute it at one input. -/
def causalPlaysWrong : ChangeSpec := { name := "causalPlays", fn := fun _ => fun
  | [d1, d2] => { results := [.lit (.bool false)], args := [d1, d2] }
  | _ => none }
def CausalPlaysWrongFalsely : Prop := causalPlaysRow.holds Try.pinned (OpenSpec.ofChange causalPlaysWrong)

/- THE SECOND FORM. 'bulk': how many values and letters a reading holds, each counted each time it is reached (what is shared counts as often as it is met; a slice's spare places count too). A statement '..UptoSaid' is the law's where the arguments, and the package variables that the reading takes, are together of bulk at most 1048576: NARROWER than '..Said'. Prove '..Said' where nothing that the law and all that it calls make is longer than what came in: it says more and counts as full. Else prove '..UptoSaid'. A law counts once. -/
mutual
def uptoBulk {H : Type} : DataW H → Nat
  | .lit (.string bytes) => bytes.length + 1
  | .lit _ => 1
  | .nil => 1
  | .ptr d => uptoBulk d + 1
  | .slice elems spare => uptoBulkAll elems + uptoBulkAll spare + 1
  | .agg parts => uptoBulkAll parts + 1
  | .iface _ d => uptoBulk d + 1
  | .map entries => uptoBulkEntries entries + 1
  | .held _ => 1
def uptoBulkAll {H : Type} : List (DataW H) → Nat
  | [] => 0
  | d :: r => uptoBulk d + uptoBulkAll r
def uptoBulkEntries {H : Type} : List (Lit × DataW H) → Nat
  | [] => 0
  | x :: r => uptoBulkEntry x + uptoBulkEntries r
def uptoBulkEntry {H : Type} : Lit × DataW H → Nat
  | (.string bytes, d) => bytes.length + uptoBulk d + 1
  | (_, d) => uptoBulk d + 1
 end
def uptoSmall : (H : Type) → List (DataW H) → Bool := fun _ ds => decide (uptoBulkAll ds ≤ 1048576)
def OpenSpec.upto (s : _root_.Go.ChangeSpec) : _root_.Go.OpenSpec := { _root_.Go.OpenSpec.ofChange s with cond := some uptoSmall }

/-- 'folkmootlaw.BakeryPlays', WHERE WHAT IT READS IS OF BULK AT MOST 1048576: true; the input reads as it did. -/
def bakeryPlaysUptoRow : OpenClaim := { program := "ytnggjekppdlaoaa", sum := "e6c63dd489769ce2c77f7eb0cf9806d34d2ba31dd926ff89b6e2be3419788b4c", func := "folkmoot/folkmootlaw.BakeryPlays", spec := "bakeryPlays", unfollowed := true, recurses := true, plainKeys := false, apart := false, narrowed := true }
def BakeryPlaysUptoSaid : Prop := bakeryPlaysUptoRow.holds Try.pinned (OpenSpec.upto bakeryPlaysSpec)

/-- 'folkmootlaw.BrachaPlays', WHERE WHAT IT READS IS OF BULK AT MOST 1048576: true; the input reads as it did. -/
def brachaPlaysUptoRow : OpenClaim := { program := "ytnggjekppdlaoaa", sum := "e6c63dd489769ce2c77f7eb0cf9806d34d2ba31dd926ff89b6e2be3419788b4c", func := "folkmoot/folkmootlaw.BrachaPlays", spec := "brachaPlays", unfollowed := true, recurses := true, plainKeys := false, apart := false, narrowed := true }
def BrachaPlaysUptoSaid : Prop := brachaPlaysUptoRow.holds Try.pinned (OpenSpec.upto brachaPlaysSpec)

/-- 'folkmootlaw.MootPlays', WHERE WHAT IT READS IS OF BULK AT MOST 1048576: true; the input reads as it did. -/
def mootPlaysUptoRow : OpenClaim := { program := "ytnggjekppdlaoaa", sum := "e6c63dd489769ce2c77f7eb0cf9806d34d2ba31dd926ff89b6e2be3419788b4c", func := "folkmoot/folkmootlaw.MootPlays", spec := "mootPlays", unfollowed := true, recurses := true, plainKeys := false, apart := false, narrowed := true }
def MootPlaysUptoSaid : Prop := mootPlaysUptoRow.holds Try.pinned (OpenSpec.upto mootPlaysSpec)

/-- 'folkmootlaw.RegisterPlays', WHERE WHAT IT READS IS OF BULK AT MOST 1048576: true; the input reads as it did. -/
def registerPlaysUptoRow : OpenClaim := { program := "ytnggjekppdlaoaa", sum := "e6c63dd489769ce2c77f7eb0cf9806d34d2ba31dd926ff89b6e2be3419788b4c", func := "folkmoot/folkmootlaw.RegisterPlays", spec := "registerPlays", plainKeys := false, apart := false, narrowed := true }
def RegisterPlaysUptoSaid : Prop := registerPlaysUptoRow.holds Try.pinned (OpenSpec.upto registerPlaysSpec)

/-- 'folkmootlaw.CausalPlays', WHERE WHAT IT READS IS OF BULK AT MOST 1048576: true; the input reads as it did. -/
def causalPlaysUptoRow : OpenClaim := { program := "ytnggjekppdlaoaa", sum := "e6c63dd489769ce2c77f7eb0cf9806d34d2ba31dd926ff89b6e2be3419788b4c", func := "folkmoot/folkmootlaw.CausalPlays", spec := "causalPlays", inPlace := ["slices.overlaps[int]"], unfollowed := true, recurses := true, plainKeys := false, apart := false, narrowed := true }
def CausalPlaysUptoSaid : Prop := causalPlaysUptoRow.holds Try.pinned (OpenSpec.upto causalPlaysSpec)

end Rows
end Go.Proofs.Ytnggjekppdlaoaa
