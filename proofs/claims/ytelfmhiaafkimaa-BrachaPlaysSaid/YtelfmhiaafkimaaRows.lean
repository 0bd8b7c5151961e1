/-
  No cell of these rows narrows 'for every input' (looked for: loops, veiled, ifaces, maps, wideKeys, modest, calm, conditions, laid).
  DERIVED. THE GIVEN ROWS OF THIS SEAT. 9 by the template 'for every input the law returns true; each argument reads behind the call as it read before'; 0 by the template 'total and deterministic' (their statements: YtelfmhiaafkimaaTotals.lean).
  GIVEN WITH THE SEED: the statements are not yours to turn. If you find one false, say at which input.
  Laid BY PROGRAM, IN A SANDBOX (cutbox-rows.mjs): the forced cells as the released guide's own fill.sh prints them over the translation c6026e6a88443a3a… (all of the seat's roots in one cut). By AI agents, Wed Nov 11 2026. No macro, syntax, notation, axiom, sorry.
-/
import Derived.Test.YtelfmhiaafkimaaChecked
import GoSem.Claim
import GoSem.ClaimJoined
import GoSem.ClaimMapViews
import Derived.JoinedTies
import Derived.KernelRfl
namespace Go.Proofs.Ytelfmhiaafkimaa
/- THE CELL 'sum', in the pinned program and in every row, IS THE sha256 OF THE DUMP (.gsa) THAT YtelfmhiaafkimaaProg.lean LOADS. Nothing in Lean hashes anything: it is a label: what it is worth is what the hold of that sum in a sandbox is worth. -/
noncomputable def Try.pinned : Pinned := { name := "ytelfmhiaafkimaa", sum := "c6026e6a88443a3a2e75a7da6427bd47ddcd359d17e07627b938abcbedffd40b", checked := Try.checked }
namespace Rows
def none {H : Type} : Left H := { results := [], args := [] }

/-- 'folkmootlaw.SerialOrders': WHATEVER THE INPUT: true; the input reads as it did. -/
def serialOrdersSpec : ChangeSpec := { name := "serialOrders", fn := fun _ => fun
  | [d] => { results := [.lit (.bool true)], args := [d] }
  | _ => none }
def serialOrdersRow : OpenClaim := { program := "ytelfmhiaafkimaa", sum := "c6026e6a88443a3a2e75a7da6427bd47ddcd359d17e07627b938abcbedffd40b", func := "folkmoot/folkmootlaw.SerialOrders", spec := "serialOrders", plainKeys := false, apart := false }
def SerialOrdersSaid : Prop := serialOrdersRow.holds Try.pinned (OpenSpec.ofChange serialOrdersSpec)

/-- ITS FALSE NEIGHBOUR: 'it returns false'. Refute it at one input. -/
def serialOrdersWrong : ChangeSpec := { name := "serialOrders", fn := fun _ => fun
  | [d] => { results := [.lit (.bool false)], args := [d] }
  | _ => none }
def SerialOrdersWrongFalsely : Prop := serialOrdersRow.holds Try.pinned (OpenSpec.ofChange serialOrdersWrong)

/-- 'folkmootlaw.PaxosPlays': WHATEVER THE INPUT: true; the input reads as it did. -/
def paxosPlaysSpec : ChangeSpec := { name := "paxosPlays", fn := fun _ => fun
  | [d1, d2] => { results := [.lit (.bool true)], args := [d1, d2] }
  | _ => none }
def paxosPlaysRow : OpenClaim := { program := "ytelfmhiaafkimaa", sum := "c6026e6a88443a3a2e75a7da6427bd47ddcd359d17e07627b938abcbedffd40b", func := "folkmoot/folkmootlaw.PaxosPlays", spec := "paxosPlays", plainKeys := false, apart := false }
def PaxosPlaysSaid : Prop := paxosPlaysRow.holds Try.pinned (OpenSpec.ofChange paxosPlaysSpec)

/-- ITS FALSE NEIGHBOUR: 'it returns false'. Refute it at one input. -/
def paxosPlaysWrong : ChangeSpec := { name := "paxosPlays", fn := fun _ => fun
  | [d1, d2] => { results := [.lit (.bool false)], args := [d1, d2] }
  | _ => none }
def PaxosPlaysWrongFalsely : Prop := paxosPlaysRow.holds Try.pinned (OpenSpec.ofChange paxosPlaysWrong)

/-- 'folkmootlaw.QuietPlays': WHATEVER THE INPUT: true; the input reads as it did. -/
def quietPlaysSpec : ChangeSpec := { name := "quietPlays", fn := fun _ => fun
  | [d1, d2] => { results := [.lit (.bool true)], args := [d1, d2] }
  | _ => none }
def quietPlaysRow : OpenClaim := { program := "ytelfmhiaafkimaa", sum := "c6026e6a88443a3a2e75a7da6427bd47ddcd359d17e07627b938abcbedffd40b", func := "folkmoot/folkmootlaw.QuietPlays", spec := "quietPlays", unfollowed := true, recurses := true, plainKeys := false, apart := false }
def QuietPlaysSaid : Prop := quietPlaysRow.holds Try.pinned (OpenSpec.ofChange quietPlaysSpec)

/-- ITS FALSE NEIGHBOUR: 'it returns false'. Refute it at one input. -/
def quietPlaysWrong : ChangeSpec := { name := "quietPlays", fn := fun _ => fun
  | [d1, d2] => { results := [.lit (.bool false)], args := [d1, d2] }
  | _ => none }
def QuietPlaysWrongFalsely : Prop := quietPlaysRow.holds Try.pinned (OpenSpec.ofChange quietPlaysWrong)

/-- 'folkmootlaw.SnapPlays': WHATEVER THE INPUT: true; the input reads as it did. -/
def snapPlaysSpec : ChangeSpec := { name := "snapPlays", fn := fun _ => fun
  | [d1, d2] => { results := [.lit (.bool true)], args := [d1, d2] }
  | _ => none }
def snapPlaysRow : OpenClaim := { program := "ytelfmhiaafkimaa", sum := "c6026e6a88443a3a2e75a7da6427bd47ddcd359d17e07627b938abcbedffd40b", func := "folkmoot/folkmootlaw.SnapPlays", spec := "snapPlays", unfollowed := true, recurses := true, plainKeys := false, apart := false }
def SnapPlaysSaid : Prop := snapPlaysRow.holds Try.pinned (OpenSpec.ofChange snapPlaysSpec)

/-- ITS FALSE NEIGHBOUR: 'it returns false'. Refute it at one input. -/
def snapPlaysWrong : ChangeSpec := { name := "snapPlays", fn := fun _ => fun
  | [d1, d2] => { results := [.lit (.bool false)], args := [d1, d2] }
  | _ => none }
def SnapPlaysWrongFalsely : Prop := snapPlaysRow.holds Try.pinned (OpenSpec.ofChange snapPlaysWrong)

/-- 'folkmootlaw.TotalPlays': WHATEVER THE INPUT: true; the input reads as it did. -/
def totalPlaysSpec : ChangeSpec := { name := "totalPlays", fn := fun _ => fun
  | [d1, d2] => { results := [.lit (.bool true)], args := [d1, d2] }
  | _ => none }
def totalPlaysRow : OpenClaim := { program := "ytelfmhiaafkimaa", sum := "c6026e6a88443a3a2e75a7da6427bd47ddcd359d17e07627b938abcbedffd40b", func := "folkmoot/folkmootlaw.TotalPlays", spec := "totalPlays", plainKeys := false, apart := false }
def TotalPlaysSaid : Prop := totalPlaysRow.holds Try.pinned (OpenSpec.ofChange totalPlaysSpec)

/-- ITS FALSE NEIGHBOUR: 'it returns false'. Refute it at one input. -/
def totalPlaysWrong : ChangeSpec := { name := "totalPlays", fn := fun _ => fun
  | [d1, d2] => { results := [.lit (.bool false)], args := [d1, d2] }
  | _ => none }
def TotalPlaysWrongFalsely : Prop := totalPlaysRow.holds Try.pinned (OpenSpec.ofChange totalPlaysWrong)

/-- 'folkmootlaw.MutexPlays': WHATEVER THE INPUT: true; the input reads as it did. -/
def mutexPlaysSpec : ChangeSpec := { name := "mutexPlays", fn := fun _ => fun
  | [d1, d2] => { results := [.lit (.bool true)], args := [d1, d2] }
  | _ => none }
def mutexPlaysRow : OpenClaim := { program := "ytelfmhiaafkimaa", sum := "c6026e6a88443a3a2e75a7da6427bd47ddcd359d17e07627b938abcbedffd40b", func := "folkmoot/folkmootlaw.MutexPlays", spec := "mutexPlays", unfollowed := true, recurses := true, plainKeys := false, apart := false }
def MutexPlaysSaid : Prop := mutexPlaysRow.holds Try.pinned (OpenSpec.ofChange mutexPlaysSpec)

/-- ITS FALSE NEIGHBOUR: 'it returns false'. Refute it at one input. -/
def mutexPlaysWrong : ChangeSpec := { name := "mutexPlays", fn := fun _ => fun
  | [d1, d2] => { results := [.lit (.bool false)], args := [d1, d2] }
  | _ => none }
def MutexPlaysWrongFalsely : Prop := mutexPlaysRow.holds Try.pinned (OpenSpec.ofChange mutexPlaysWrong)

/-- 'folkmootlaw.FloodPlays': WHATEVER THE INPUT: true; the input reads as it did. -/
def floodPlaysSpec : ChangeSpec := { name := "floodPlays", fn := fun _ => fun
  | [d1, d2, d3] => { results := [.lit (.bool true)], args := [d1, d2, d3] }
  | _ => none }
def floodPlaysRow : OpenClaim := { program := "ytelfmhiaafkimaa", sum := "c6026e6a88443a3a2e75a7da6427bd47ddcd359d17e07627b938abcbedffd40b", func := "folkmoot/folkmootlaw.FloodPlays", spec := "floodPlays", inPlace := ["maps.clone"], unfollowed := true, recurses := true, plainKeys := false, apart := false }
def FloodPlaysSaid : Prop := floodPlaysRow.holds Try.pinned (OpenSpec.ofChange floodPlaysSpec)

/-- ITS FALSE NEIGHBOUR: 'it returns false'. Refute it at one input. -/
def floodPlaysWrong : ChangeSpec := { name := "floodPlays", fn := fun _ => fun
  | [d1, d2, d3] => { results := [.lit (.bool false)], args := [d1, d2, d3] }
  | _ => none }
def FloodPlaysWrongFalsely : Prop := floodPlaysRow.holds Try.pinned (OpenSpec.ofChange floodPlaysWrong)

/-- 'folkmootlaw.BrachaPlays': WHATEVER THE INPUT: true; the input reads as it did. -/
def brachaPlaysSpec : ChangeSpec := { name := "brachaPlays", fn := fun _ => fun
  | [d1, d2, d3, d4, d5] => { results := [.lit (.bool true)], args := [d1, d2, d3, d4, d5] }
  | _ => none }
def brachaPlaysRow : OpenClaim := { program := "ytelfmhiaafkimaa", sum := "c6026e6a88443a3a2e75a7da6427bd47ddcd359d17e07627b938abcbedffd40b", func := "folkmoot/folkmootlaw.BrachaPlays", spec := "brachaPlays", unfollowed := true, recurses := true, plainKeys := false, apart := false }
def BrachaPlaysSaid : Prop := brachaPlaysRow.holds Try.pinned (OpenSpec.ofChange brachaPlaysSpec)

/-- ITS FALSE NEIGHBOUR: 'it returns false'. Refute it at one input. -/
def brachaPlaysWrong : ChangeSpec := { name := "brachaPlays", fn := fun _ => fun
  | [d1, d2, d3, d4, d5] => { results := [.lit (.bool false)], args := [d1, d2, d3, d4, d5] }
  | _ => none }
def BrachaPlaysWrongFalsely : Prop := brachaPlaysRow.holds Try.pinned (OpenSpec.ofChange brachaPlaysWrong)

/-- 'folkmootlaw.CausalPlays': WHATEVER THE INPUT: true; the input reads as it did. -/
def causalPlaysSpec : ChangeSpec := { name := "causalPlays", fn := fun _ => fun
  | [d1, d2] => { results := [.lit (.bool true)], args := [d1, d2] }
  | _ => none }
def causalPlaysRow : OpenClaim := { program := "ytelfmhiaafkimaa", sum := "c6026e6a88443a3a2e75a7da6427bd47ddcd359d17e07627b938abcbedffd40b", func := "folkmoot/folkmootlaw.CausalPlays", spec := "causalPlays", inPlace := ["slices.overlaps[int]"], unfollowed := true, recurses := true, plainKeys := false, apart := false }
def CausalPlaysSaid : Prop := causalPlaysRow.holds Try.pinned (OpenSpec.ofChange causalPlaysSpec)

/-- ITS FALSE NEIGHBOUR: 'it returns false'. Refute it at one input. -/
def causalPlaysWrong : ChangeSpec := { name := "causalPlays", fn := fun _ => fun
  | [d1, d2] => { results := [.lit (.bool false)], args := [d1, d2] }
  | _ => none }
def CausalPlaysWrongFalsely : Prop := causalPlaysRow.holds Try.pinned (OpenSpec.ofChange causalPlaysWrong)

/- THE SECOND FORM. 'bulk': how many values and letters a reading holds, each counted each time it is reached (what is shared counts as often as it is met; a slice's spare places count too). A statement '..UptoSaid' is the law's where the arguments, and the package variables that the reading takes, are together of bulk at most 1048576: NARROWER than '..Said'. Prove '..Said' where nothing that the law and all that it calls make is longer than what came in: it says more and counts as full. Else prove '..UptoSaid'. A law counts once. -/
mutual
def uptoBulk {H : Type} : DataW H → Nat
  | .lit (.string bytes) => bytes.length + 1
  | .lit _ => 1
  | .nil => 1
  | .ptr d => uptoBulk d + 1
  | .slice elems spare => uptoBulkAll elems + uptoBulkAll spare + 1
  | .agg parts => uptoBulkAll parts + 1
  | .iface _ d => uptoBulk d + 1
  | .map entries => uptoBulkEntries entries + 1
  | .held _ => 1
def uptoBulkAll {H : Type} : List (DataW H) → Nat
  | [] => 0
  | d :: r => uptoBulk d + uptoBulkAll r
def uptoBulkEntries {H : Type} : List (Lit × DataW H) → Nat
  | [] => 0
  | x :: r => uptoBulkEntry x + uptoBulkEntries r
def uptoBulkEntry {H : Type} : Lit × DataW H → Nat
  | (.string bytes, d) => bytes.length + uptoBulk d + 1
  | (_, d) => uptoBulk d + 1
 end
def uptoSmall : (H : Type) → List (DataW H) → Bool := fun _ ds => decide (uptoBulkAll ds ≤ 1048576)
def OpenSpec.upto (s : _root_.Go.ChangeSpec) : _root_.Go.OpenSpec := { _root_.Go.OpenSpec.ofChange s with cond := some uptoSmall }

/-- 'folkmootlaw.SerialOrders', WHERE WHAT IT READS IS OF BULK AT MOST 1048576: true; the input reads as it did. -/
def serialOrdersUptoRow : OpenClaim := { program := "ytelfmhiaafkimaa", sum := "c6026e6a88443a3a2e75a7da6427bd47ddcd359d17e07627b938abcbedffd40b", func := "folkmoot/folkmootlaw.SerialOrders", spec := "serialOrders", plainKeys := false, apart := false, narrowed := true }
def SerialOrdersUptoSaid : Prop := serialOrdersUptoRow.holds Try.pinned (OpenSpec.upto serialOrdersSpec)

/-- 'folkmootlaw.PaxosPlays', WHERE WHAT IT READS IS OF BULK AT MOST 1048576: true; the input reads as it did. -/
def paxosPlaysUptoRow : OpenClaim := { program := "ytelfmhiaafkimaa", sum := "c6026e6a88443a3a2e75a7da6427bd47ddcd359d17e07627b938abcbedffd40b", func := "folkmoot/folkmootlaw.PaxosPlays", spec := "paxosPlays", plainKeys := false, apart := false, narrowed := true }
def PaxosPlaysUptoSaid : Prop := paxosPlaysUptoRow.holds Try.pinned (OpenSpec.upto paxosPlaysSpec)

/-- 'folkmootlaw.QuietPlays', WHERE WHAT IT READS IS OF BULK AT MOST 1048576: true; the input reads as it did. -/
def quietPlaysUptoRow : OpenClaim := { program := "ytelfmhiaafkimaa", sum := "c6026e6a88443a3a2e75a7da6427bd47ddcd359d17e07627b938abcbedffd40b", func := "folkmoot/folkmootlaw.QuietPlays", spec := "quietPlays", unfollowed := true, recurses := true, plainKeys := false, apart := false, narrowed := true }
def QuietPlaysUptoSaid : Prop := quietPlaysUptoRow.holds Try.pinned (OpenSpec.upto quietPlaysSpec)

/-- 'folkmootlaw.SnapPlays', WHERE WHAT IT READS IS OF BULK AT MOST 1048576: true; the input reads as it did. -/
def snapPlaysUptoRow : OpenClaim := { program := "ytelfmhiaafkimaa", sum := "c6026e6a88443a3a2e75a7da6427bd47ddcd359d17e07627b938abcbedffd40b", func := "folkmoot/folkmootlaw.SnapPlays", spec := "snapPlays", unfollowed := true, recurses := true, plainKeys := false, apart := false, narrowed := true }
def SnapPlaysUptoSaid : Prop := snapPlaysUptoRow.holds Try.pinned (OpenSpec.upto snapPlaysSpec)

/-- 'folkmootlaw.TotalPlays', WHERE WHAT IT READS IS OF BULK AT MOST 1048576: true; the input reads as it did. -/
def totalPlaysUptoRow : OpenClaim := { program := "ytelfmhiaafkimaa", sum := "c6026e6a88443a3a2e75a7da6427bd47ddcd359d17e07627b938abcbedffd40b", func := "folkmoot/folkmootlaw.TotalPlays", spec := "totalPlays", plainKeys := false, apart := false, narrowed := true }
def TotalPlaysUptoSaid : Prop := totalPlaysUptoRow.holds Try.pinned (OpenSpec.upto totalPlaysSpec)

/-- 'folkmootlaw.MutexPlays', WHERE WHAT IT READS IS OF BULK AT MOST 1048576: true; the input reads as it did. -/
def mutexPlaysUptoRow : OpenClaim := { program := "ytelfmhiaafkimaa", sum := "c6026e6a88443a3a2e75a7da6427bd47ddcd359d17e07627b938abcbedffd40b", func := "folkmoot/folkmootlaw.MutexPlays", spec := "mutexPlays", unfollowed := true, recurses := true, plainKeys := false, apart := false, narrowed := true }
def MutexPlaysUptoSaid : Prop := mutexPlaysUptoRow.holds Try.pinned (OpenSpec.upto mutexPlaysSpec)

/-- 'folkmootlaw.FloodPlays', WHERE WHAT IT READS IS OF BULK AT MOST 1048576: true; the input reads as it did. -/
def floodPlaysUptoRow : OpenClaim := { program := "ytelfmhiaafkimaa", sum := "c6026e6a88443a3a2e75a7da6427bd47ddcd359d17e07627b938abcbedffd40b", func := "folkmoot/folkmootlaw.FloodPlays", spec := "floodPlays", inPlace := ["maps.clone"], unfollowed := true, recurses := true, plainKeys := false, apart := false, narrowed := true }
def FloodPlaysUptoSaid : Prop := floodPlaysUptoRow.holds Try.pinned (OpenSpec.upto floodPlaysSpec)

/-- 'folkmootlaw.BrachaPlays', WHERE WHAT IT READS IS OF BULK AT MOST 1048576: true; the input reads as it did. -/
def brachaPlaysUptoRow : OpenClaim := { program := "ytelfmhiaafkimaa", sum := "c6026e6a88443a3a2e75a7da6427bd47ddcd359d17e07627b938abcbedffd40b", func := "folkmoot/folkmootlaw.BrachaPlays", spec := "brachaPlays", unfollowed := true, recurses := true, plainKeys := false, apart := false, narrowed := true }
def BrachaPlaysUptoSaid : Prop := brachaPlaysUptoRow.holds Try.pinned (OpenSpec.upto brachaPlaysSpec)

/-- 'folkmootlaw.CausalPlays', WHERE WHAT IT READS IS OF BULK AT MOST 1048576: true; the input reads as it did. -/
def causalPlaysUptoRow : OpenClaim := { program := "ytelfmhiaafkimaa", sum := "c6026e6a88443a3a2e75a7da6427bd47ddcd359d17e07627b938abcbedffd40b", func := "folkmoot/folkmootlaw.CausalPlays", spec := "causalPlays", inPlace := ["slices.overlaps[int]"], unfollowed := true, recurses := true, plainKeys := false, apart := false, narrowed := true }
def CausalPlaysUptoSaid : Prop := causalPlaysUptoRow.holds Try.pinned (OpenSpec.upto causalPlaysSpec)

end Rows
end Go.Proofs.Ytelfmhiaafkimaa
