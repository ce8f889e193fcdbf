/-
  No cell of these rows narrows 'for every input' (looked for: loops, veiled, ifaces, maps, wideKeys, modest, calm, conditions, laid).
  DERIVED. THE GIVEN ROWS OF THIS SEAT. 8 by the template 'for every input the law returns true; each argument reads behind the call as it read before'; 0 by the template 'total and deterministic' (their statements: YteeinehpneppnaaTotals.lean).
  GIVEN WITH THE SEED: the statements are not yours to turn. If you find one false, say at which input.
  Laid BY PROGRAM, IN A SANDBOX (cutbox-rows.mjs): the forced cells as the released guide's own fill.sh prints them over the translation 85c2491e4ca8f1bb… (all of the seat's roots in one cut). By AI agents, Wed Nov 11 2026. No macro, syntax, notation, axiom, sorry.
-/
import Derived.Test.YteeinehpneppnaaChecked
import GoSem.Claim
import GoSem.ClaimJoined
import GoSem.ClaimMapViews
import Derived.JoinedTies
import Derived.KernelRfl
namespace Go.Proofs.Yteeinehpneppnaa
/- THE CELL 'sum', in the pinned program and in every row, IS THE sha256 OF THE DUMP (.gsa) THAT YteeinehpneppnaaProg.lean LOADS. Nothing in Lean hashes anything: it is a label: what it is worth is what the hold of that sum in a sandbox is worth. -/
noncomputable def Try.pinned : Pinned := { name := "yteeinehpneppnaa", sum := "85c2491e4ca8f1bbde43ef9f16e0dbc4dd1cd482bc39c325c4fbace09670a53e", checked := Try.checked }
namespace Rows
def none {H : Type} : Left H := { results := [], args := [] }

/-- 'shearworkslaw01.MobSets': WHATEVER THE INPUT: true; the input reads as it did. -/
def mobSetsSpec : ChangeSpec := { name := "mobSets", fn := fun _ => fun
  | [d1, d2, d3, d4] => { results := [.lit (.bool true)], args := [d1, d2, d3, d4] }
  | _ => none }
def mobSetsRow : OpenClaim := { program := "yteeinehpneppnaa", sum := "85c2491e4ca8f1bbde43ef9f16e0dbc4dd1cd482bc39c325c4fbace09670a53e", func := "shearworks/shearworkslaw01.MobSets", spec := "mobSets", unfollowed := true, recurses := true, plainKeys := false, apart := false }
def MobSetsSaid : Prop := mobSetsRow.holds Try.pinned (OpenSpec.ofChange mobSetsSpec)

/-- ITS FALSE NEIGHBOUR: 'it returns false'. Refute it at one input. -/
def mobSetsWrong : ChangeSpec := { name := "mobSets", fn := fun _ => fun
  | [d1, d2, d3, d4] => { results := [.lit (.bool false)], args := [d1, d2, d3, d4] }
  | _ => none }
def MobSetsWrongFalsely : Prop := mobSetsRow.holds Try.pinned (OpenSpec.ofChange mobSetsWrong)

/-- 'shearworkslaw01.MobNames': WHATEVER THE INPUT: true; the input reads as it did. -/
def mobNamesSpec : ChangeSpec := { name := "mobNames", fn := fun _ => fun
  | [] => { results := [.lit (.bool true)], args := [] }
  | _ => none }
def mobNamesRow : OpenClaim := { program := "yteeinehpneppnaa", sum := "85c2491e4ca8f1bbde43ef9f16e0dbc4dd1cd482bc39c325c4fbace09670a53e", func := "shearworks/shearworkslaw01.MobNames", spec := "mobNames", unfollowed := true, recurses := true, plainKeys := false, apart := false }
def MobNamesSaid : Prop := mobNamesRow.holds Try.pinned (OpenSpec.ofChange mobNamesSpec)

/-- ITS FALSE NEIGHBOUR: 'it returns false'. Refute it at one input. -/
def mobNamesWrong : ChangeSpec := { name := "mobNames", fn := fun _ => fun
  | [] => { results := [.lit (.bool false)], args := [] }
  | _ => none }
def MobNamesWrongFalsely : Prop := mobNamesRow.holds Try.pinned (OpenSpec.ofChange mobNamesWrong)

/-- 'shearworkslaw01.MobTrue': WHATEVER THE INPUT: true; the input reads as it did. -/
def mobTrueSpec : ChangeSpec := { name := "mobTrue", fn := fun _ => fun
  | [d1, d2, d3] => { results := [.lit (.bool true)], args := [d1, d2, d3] }
  | _ => none }
def mobTrueRow : OpenClaim := { program := "yteeinehpneppnaa", sum := "85c2491e4ca8f1bbde43ef9f16e0dbc4dd1cd482bc39c325c4fbace09670a53e", func := "shearworks/shearworkslaw01.MobTrue", spec := "mobTrue", unfollowed := true, recurses := true, plainKeys := false, apart := false }
def MobTrueSaid : Prop := mobTrueRow.holds Try.pinned (OpenSpec.ofChange mobTrueSpec)

/-- ITS FALSE NEIGHBOUR: 'it returns false'. Refute it at one input. -/
def mobTrueWrong : ChangeSpec := { name := "mobTrue", fn := fun _ => fun
  | [d1, d2, d3] => { results := [.lit (.bool false)], args := [d1, d2, d3] }
  | _ => none }
def MobTrueWrongFalsely : Prop := mobTrueRow.holds Try.pinned (OpenSpec.ofChange mobTrueWrong)

/-- 'shearworkslaw01.MobEnds': WHATEVER THE INPUT: true; the input reads as it did. -/
def mobEndsSpec : ChangeSpec := { name := "mobEnds", fn := fun _ => fun
  | [d1, d2, d3] => { results := [.lit (.bool true)], args := [d1, d2, d3] }
  | _ => none }
def mobEndsRow : OpenClaim := { program := "yteeinehpneppnaa", sum := "85c2491e4ca8f1bbde43ef9f16e0dbc4dd1cd482bc39c325c4fbace09670a53e", func := "shearworks/shearworkslaw01.MobEnds", spec := "mobEnds", unfollowed := true, recurses := true, plainKeys := false, apart := false }
def MobEndsSaid : Prop := mobEndsRow.holds Try.pinned (OpenSpec.ofChange mobEndsSpec)

/-- ITS FALSE NEIGHBOUR: 'it returns false'. Refute it at one input. -/
def mobEndsWrong : ChangeSpec := { name := "mobEnds", fn := fun _ => fun
  | [d1, d2, d3] => { results := [.lit (.bool false)], args := [d1, d2, d3] }
  | _ => none }
def MobEndsWrongFalsely : Prop := mobEndsRow.holds Try.pinned (OpenSpec.ofChange mobEndsWrong)

/-- 'shearworkslaw01.MobWhere': WHATEVER THE INPUT: true; the input reads as it did. -/
def mobWhereSpec : ChangeSpec := { name := "mobWhere", fn := fun _ => fun
  | [d1, d2, d3] => { results := [.lit (.bool true)], args := [d1, d2, d3] }
  | _ => none }
def mobWhereRow : OpenClaim := { program := "yteeinehpneppnaa", sum := "85c2491e4ca8f1bbde43ef9f16e0dbc4dd1cd482bc39c325c4fbace09670a53e", func := "shearworks/shearworkslaw01.MobWhere", spec := "mobWhere", unfollowed := true, recurses := true, plainKeys := false, apart := false }
def MobWhereSaid : Prop := mobWhereRow.holds Try.pinned (OpenSpec.ofChange mobWhereSpec)

/-- ITS FALSE NEIGHBOUR: 'it returns false'. Refute it at one input. -/
def mobWhereWrong : ChangeSpec := { name := "mobWhere", fn := fun _ => fun
  | [d1, d2, d3] => { results := [.lit (.bool false)], args := [d1, d2, d3] }
  | _ => none }
def MobWhereWrongFalsely : Prop := mobWhereRow.holds Try.pinned (OpenSpec.ofChange mobWhereWrong)

/-- 'shearworkslaw01.MobSafe': WHATEVER THE INPUT: true; the input reads as it did. -/
def mobSafeSpec : ChangeSpec := { name := "mobSafe", fn := fun _ => fun
  | [d1, d2, d3] => { results := [.lit (.bool true)], args := [d1, d2, d3] }
  | _ => none }
def mobSafeRow : OpenClaim := { program := "yteeinehpneppnaa", sum := "85c2491e4ca8f1bbde43ef9f16e0dbc4dd1cd482bc39c325c4fbace09670a53e", func := "shearworks/shearworkslaw01.MobSafe", spec := "mobSafe", unfollowed := true, recurses := true, plainKeys := false, apart := false }
def MobSafeSaid : Prop := mobSafeRow.holds Try.pinned (OpenSpec.ofChange mobSafeSpec)

/-- ITS FALSE NEIGHBOUR: 'it returns false'. Refute it at one input. -/
def mobSafeWrong : ChangeSpec := { name := "mobSafe", fn := fun _ => fun
  | [d1, d2, d3] => { results := [.lit (.bool false)], args := [d1, d2, d3] }
  | _ => none }
def MobSafeWrongFalsely : Prop := mobSafeRow.holds Try.pinned (OpenSpec.ofChange mobSafeWrong)

/-- 'shearworkslaw01.MobClash': WHATEVER THE INPUT: true; the input reads as it did. -/
def mobClashSpec : ChangeSpec := { name := "mobClash", fn := fun _ => fun
  | [d1, d2] => { results := [.lit (.bool true)], args := [d1, d2] }
  | _ => none }
def mobClashRow : OpenClaim := { program := "yteeinehpneppnaa", sum := "85c2491e4ca8f1bbde43ef9f16e0dbc4dd1cd482bc39c325c4fbace09670a53e", func := "shearworks/shearworkslaw01.MobClash", spec := "mobClash", unfollowed := true, recurses := true, plainKeys := false, apart := false }
def MobClashSaid : Prop := mobClashRow.holds Try.pinned (OpenSpec.ofChange mobClashSpec)

/-- ITS FALSE NEIGHBOUR: 'it returns false'. Refute it at one input. -/
def mobClashWrong : ChangeSpec := { name := "mobClash", fn := fun _ => fun
  | [d1, d2] => { results := [.lit (.bool false)], args := [d1, d2] }
  | _ => none }
def MobClashWrongFalsely : Prop := mobClashRow.holds Try.pinned (OpenSpec.ofChange mobClashWrong)

/-- 'shearworkslaw01.MobMore': WHATEVER THE INPUT: true; the input reads as it did. -/
def mobMoreSpec : ChangeSpec := { name := "mobMore", fn := fun _ => fun
  | [d1, d2, d3, d4, d5] => { results := [.lit (.bool true)], args := [d1, d2, d3, d4, d5] }
  | _ => none }
def mobMoreRow : OpenClaim := { program := "yteeinehpneppnaa", sum := "85c2491e4ca8f1bbde43ef9f16e0dbc4dd1cd482bc39c325c4fbace09670a53e", func := "shearworks/shearworkslaw01.MobMore", spec := "mobMore", unfollowed := true, recurses := true, plainKeys := false, apart := false }
def MobMoreSaid : Prop := mobMoreRow.holds Try.pinned (OpenSpec.ofChange mobMoreSpec)

/-- ITS FALSE NEIGHBOUR: 'it returns false'. Refute it at one input. -/
def mobMoreWrong : ChangeSpec := { name := "mobMore", fn := fun _ => fun
  | [d1, d2, d3, d4, d5] => { results := [.lit (.bool false)], args := [d1, d2, d3, d4, d5] }
  | _ => none }
def MobMoreWrongFalsely : Prop := mobMoreRow.holds Try.pinned (OpenSpec.ofChange mobMoreWrong)

/- THE SECOND FORM. 'bulk': how many values and letters a reading holds, each counted each time it is reached (what is shared counts as often as it is met; a slice's spare places count too). A statement '..UptoSaid' is the law's where the arguments, and the package variables that the reading takes, are together of bulk at most 1048576: NARROWER than '..Said'. Prove '..Said' where nothing that the law and all that it calls make is longer than what came in: it says more and counts as full. Else prove '..UptoSaid'. A law counts once. -/
mutual
def uptoBulk {H : Type} : DataW H → Nat
  | .lit (.string bytes) => bytes.length + 1
  | .lit _ => 1
  | .nil => 1
  | .ptr d => uptoBulk d + 1
  | .slice elems spare => uptoBulkAll elems + uptoBulkAll spare + 1
  | .agg parts => uptoBulkAll parts + 1
  | .iface _ d => uptoBulk d + 1
  | .map entries => uptoBulkEntries entries + 1
  | .held _ => 1
def uptoBulkAll {H : Type} : List (DataW H) → Nat
  | [] => 0
  | d :: r => uptoBulk d + uptoBulkAll r
def uptoBulkEntries {H : Type} : List (Lit × DataW H) → Nat
  | [] => 0
  | x :: r => uptoBulkEntry x + uptoBulkEntries r
def uptoBulkEntry {H : Type} : Lit × DataW H → Nat
  | (.string bytes, d) => bytes.length + uptoBulk d + 1
  | (_, d) => uptoBulk d + 1
 end
def uptoSmall : (H : Type) → List (DataW H) → Bool := fun _ ds => decide (uptoBulkAll ds ≤ 1048576)
def OpenSpec.upto (s : _root_.Go.ChangeSpec) : _root_.Go.OpenSpec := { _root_.Go.OpenSpec.ofChange s with cond := some uptoSmall }

/-- 'shearworkslaw01.MobSets', WHERE WHAT IT READS IS OF BULK AT MOST 1048576: true; the input reads as it did. -/
def mobSetsUptoRow : OpenClaim := { program := "yteeinehpneppnaa", sum := "85c2491e4ca8f1bbde43ef9f16e0dbc4dd1cd482bc39c325c4fbace09670a53e", func := "shearworks/shearworkslaw01.MobSets", spec := "mobSets", unfollowed := true, recurses := true, plainKeys := false, apart := false, narrowed := true }
def MobSetsUptoSaid : Prop := mobSetsUptoRow.holds Try.pinned (OpenSpec.upto mobSetsSpec)

/-- 'shearworkslaw01.MobNames', WHERE WHAT IT READS IS OF BULK AT MOST 1048576: true; the input reads as it did. -/
def mobNamesUptoRow : OpenClaim := { program := "yteeinehpneppnaa", sum := "85c2491e4ca8f1bbde43ef9f16e0dbc4dd1cd482bc39c325c4fbace09670a53e", func := "shearworks/shearworkslaw01.MobNames", spec := "mobNames", unfollowed := true, recurses := true, plainKeys := false, apart := false, narrowed := true }
def MobNamesUptoSaid : Prop := mobNamesUptoRow.holds Try.pinned (OpenSpec.upto mobNamesSpec)

/-- 'shearworkslaw01.MobTrue', WHERE WHAT IT READS IS OF BULK AT MOST 1048576: true; the input reads as it did. -/
def mobTrueUptoRow : OpenClaim := { program := "yteeinehpneppnaa", sum := "85c2491e4ca8f1bbde43ef9f16e0dbc4dd1cd482bc39c325c4fbace09670a53e", func := "shearworks/shearworkslaw01.MobTrue", spec := "mobTrue", unfollowed := true, recurses := true, plainKeys := false, apart := false, narrowed := true }
def MobTrueUptoSaid : Prop := mobTrueUptoRow.holds Try.pinned (OpenSpec.upto mobTrueSpec)

/-- 'shearworkslaw01.MobEnds', WHERE WHAT IT READS IS OF BULK AT MOST 1048576: true; the input reads as it did. -/
def mobEndsUptoRow : OpenClaim := { program := "yteeinehpneppnaa", sum := "85c2491e4ca8f1bbde43ef9f16e0dbc4dd1cd482bc39c325c4fbace09670a53e", func := "shearworks/shearworkslaw01.MobEnds", spec := "mobEnds", unfollowed := true, recurses := true, plainKeys := false, apart := false, narrowed := true }
def MobEndsUptoSaid : Prop := mobEndsUptoRow.holds Try.pinned (OpenSpec.upto mobEndsSpec)

/-- 'shearworkslaw01.MobWhere', WHERE WHAT IT READS IS OF BULK AT MOST 1048576: true; the input reads as it did. -/
def mobWhereUptoRow : OpenClaim := { program := "yteeinehpneppnaa", sum := "85c2491e4ca8f1bbde43ef9f16e0dbc4dd1cd482bc39c325c4fbace09670a53e", func := "shearworks/shearworkslaw01.MobWhere", spec := "mobWhere", unfollowed := true, recurses := true, plainKeys := false, apart := false, narrowed := true }
def MobWhereUptoSaid : Prop := mobWhereUptoRow.holds Try.pinned (OpenSpec.upto mobWhereSpec)

/-- 'shearworkslaw01.MobSafe', WHERE WHAT IT READS IS OF BULK AT MOST 1048576: true; the input reads as it did. -/
def mobSafeUptoRow : OpenClaim := { program := "yteeinehpneppnaa", sum := "85c2491e4ca8f1bbde43ef9f16e0dbc4dd1cd482bc39c325c4fbace09670a53e", func := "shearworks/shearworkslaw01.MobSafe", spec := "mobSafe", unfollowed := true, recurses := true, plainKeys := false, apart := false, narrowed := true }
def MobSafeUptoSaid : Prop := mobSafeUptoRow.holds Try.pinned (OpenSpec.upto mobSafeSpec)

/-- 'shearworkslaw01.MobClash', WHERE WHAT IT READS IS OF BULK AT MOST 1048576: true; the input reads as it did. -/
def mobClashUptoRow : OpenClaim := { program := "yteeinehpneppnaa", sum := "85c2491e4ca8f1bbde43ef9f16e0dbc4dd1cd482bc39c325c4fbace09670a53e", func := "shearworks/shearworkslaw01.MobClash", spec := "mobClash", unfollowed := true, recurses := true, plainKeys := false, apart := false, narrowed := true }
def MobClashUptoSaid : Prop := mobClashUptoRow.holds Try.pinned (OpenSpec.upto mobClashSpec)

/-- 'shearworkslaw01.MobMore', WHERE WHAT IT READS IS OF BULK AT MOST 1048576: true; the input reads as it did. -/
def mobMoreUptoRow : OpenClaim := { program := "yteeinehpneppnaa", sum := "85c2491e4ca8f1bbde43ef9f16e0dbc4dd1cd482bc39c325c4fbace09670a53e", func := "shearworks/shearworkslaw01.MobMore", spec := "mobMore", unfollowed := true, recurses := true, plainKeys := false, apart := false, narrowed := true }
def MobMoreUptoSaid : Prop := mobMoreUptoRow.holds Try.pinned (OpenSpec.upto mobMoreSpec)

end Rows
end Go.Proofs.Yteeinehpneppnaa
