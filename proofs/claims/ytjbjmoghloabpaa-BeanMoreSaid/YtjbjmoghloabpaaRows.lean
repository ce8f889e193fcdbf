/-
  No cell of these rows narrows 'for every input' (looked for: loops, veiled, ifaces, maps, wideKeys, modest, calm, conditions, laid).
  DERIVED. THE GIVEN ROWS OF THIS SEAT. 9 by the template 'for every input the law returns true; each argument reads behind the call as it read before'; 0 by the template 'total and deterministic' (their statements: YtjbjmoghloabpaaTotals.lean).
  GIVEN WITH THE SEED: the statements are not yours to turn. If you find one false, say at which input.
  Laid BY PROGRAM, IN A SANDBOX (cutbox-rows.mjs): the forced cells as the released guide's own fill.sh prints them over the translation 1292922695cf801c… (all of the seat's roots in one cut). By AI agents, Wed Nov 11 2026. No macro, syntax, notation, axiom, sorry.
-/
import Derived.Test.YtjbjmoghloabpaaChecked
import GoSem.Claim
import GoSem.ClaimJoined
import GoSem.ClaimMapViews
import Derived.JoinedTies
import Derived.KernelRfl
namespace Go.Proofs.Ytjbjmoghloabpaa
/- THE CELL 'sum', in the pinned program and in every row, IS THE sha256 OF THE DUMP (.gsa) THAT YtjbjmoghloabpaaProg.lean LOADS. Nothing in Lean hashes anything: it is a label: what it is worth is what the hold of that sum in a sandbox is worth. -/
noncomputable def Try.pinned : Pinned := { name := "ytjbjmoghloabpaa", sum := "1292922695cf801c1d7257045bb07bc6c2ce812c9d0d2a9e20ce5c67c6b939e3", checked := Try.checked }
namespace Rows
def none {H : Type} : Left H := { results := [], args := [] }

/-- 'shearworkslaw03.BeanTells': WHATEVER THE INPUT: true; the input reads as it did. -/
def beanTellsSpec : ChangeSpec := { name := "beanTells", fn := fun _ => fun
  | [d1, d2, d3] => { results := [.lit (.bool true)], args := [d1, d2, d3] }
  | _ => none }
def beanTellsRow : OpenClaim := { program := "ytjbjmoghloabpaa", sum := "1292922695cf801c1d7257045bb07bc6c2ce812c9d0d2a9e20ce5c67c6b939e3", func := "shearworks/shearworkslaw03.BeanTells", spec := "beanTells", unfollowed := true, recurses := true, plainKeys := false, apart := false }
def BeanTellsSaid : Prop := beanTellsRow.holds Try.pinned (OpenSpec.ofChange beanTellsSpec)

/-- ITS FALSE NEIGHBOUR: 'it returns false'. Refute it at one input. -/
def beanTellsWrong : ChangeSpec := { name := "beanTells", fn := fun _ => fun
  | [d1, d2, d3] => { results := [.lit (.bool false)], args := [d1, d2, d3] }
  | _ => none }
def BeanTellsWrongFalsely : Prop := beanTellsRow.holds Try.pinned (OpenSpec.ofChange beanTellsWrong)

/-- 'shearworkslaw03.BeanSets': WHATEVER THE INPUT: true; the input reads as it did. -/
def beanSetsSpec : ChangeSpec := { name := "beanSets", fn := fun _ => fun
  | [d1, d2] => { results := [.lit (.bool true)], args := [d1, d2] }
  | _ => none }
def beanSetsRow : OpenClaim := { program := "ytjbjmoghloabpaa", sum := "1292922695cf801c1d7257045bb07bc6c2ce812c9d0d2a9e20ce5c67c6b939e3", func := "shearworks/shearworkslaw03.BeanSets", spec := "beanSets", unfollowed := true, recurses := true, plainKeys := false, apart := false }
def BeanSetsSaid : Prop := beanSetsRow.holds Try.pinned (OpenSpec.ofChange beanSetsSpec)

/-- ITS FALSE NEIGHBOUR: 'it returns false'. Refute it at one input. -/
def beanSetsWrong : ChangeSpec := { name := "beanSets", fn := fun _ => fun
  | [d1, d2] => { results := [.lit (.bool false)], args := [d1, d2] }
  | _ => none }
def BeanSetsWrongFalsely : Prop := beanSetsRow.holds Try.pinned (OpenSpec.ofChange beanSetsWrong)

/-- 'shearworkslaw03.BeanNames': WHATEVER THE INPUT: true; the input reads as it did. -/
def beanNamesSpec : ChangeSpec := { name := "beanNames", fn := fun _ => fun
  | [] => { results := [.lit (.bool true)], args := [] }
  | _ => none }
def beanNamesRow : OpenClaim := { program := "ytjbjmoghloabpaa", sum := "1292922695cf801c1d7257045bb07bc6c2ce812c9d0d2a9e20ce5c67c6b939e3", func := "shearworks/shearworkslaw03.BeanNames", spec := "beanNames", unfollowed := true, recurses := true, plainKeys := false, apart := false }
def BeanNamesSaid : Prop := beanNamesRow.holds Try.pinned (OpenSpec.ofChange beanNamesSpec)

/-- ITS FALSE NEIGHBOUR: 'it returns false'. Refute it at one input. -/
def beanNamesWrong : ChangeSpec := { name := "beanNames", fn := fun _ => fun
  | [] => { results := [.lit (.bool false)], args := [] }
  | _ => none }
def BeanNamesWrongFalsely : Prop := beanNamesRow.holds Try.pinned (OpenSpec.ofChange beanNamesWrong)

/-- 'shearworkslaw03.BeanTrue': WHATEVER THE INPUT: true; the input reads as it did. -/
def beanTrueSpec : ChangeSpec := { name := "beanTrue", fn := fun _ => fun
  | [d1, d2] => { results := [.lit (.bool true)], args := [d1, d2] }
  | _ => none }
def beanTrueRow : OpenClaim := { program := "ytjbjmoghloabpaa", sum := "1292922695cf801c1d7257045bb07bc6c2ce812c9d0d2a9e20ce5c67c6b939e3", func := "shearworks/shearworkslaw03.BeanTrue", spec := "beanTrue", unfollowed := true, recurses := true, plainKeys := false, apart := false }
def BeanTrueSaid : Prop := beanTrueRow.holds Try.pinned (OpenSpec.ofChange beanTrueSpec)

/-- ITS FALSE NEIGHBOUR: 'it returns false'. Refute it at one input. -/
def beanTrueWrong : ChangeSpec := { name := "beanTrue", fn := fun _ => fun
  | [d1, d2] => { results := [.lit (.bool false)], args := [d1, d2] }
  | _ => none }
def BeanTrueWrongFalsely : Prop := beanTrueRow.holds Try.pinned (OpenSpec.ofChange beanTrueWrong)

/-- 'shearworkslaw03.BeanWays': WHATEVER THE INPUT: true; the input reads as it did. -/
def beanWaysSpec : ChangeSpec := { name := "beanWays", fn := fun _ => fun
  | [d1, d2, d3] => { results := [.lit (.bool true)], args := [d1, d2, d3] }
  | _ => none }
def beanWaysRow : OpenClaim := { program := "ytjbjmoghloabpaa", sum := "1292922695cf801c1d7257045bb07bc6c2ce812c9d0d2a9e20ce5c67c6b939e3", func := "shearworks/shearworkslaw03.BeanWays", spec := "beanWays", unfollowed := true, recurses := true, plainKeys := false, apart := false }
def BeanWaysSaid : Prop := beanWaysRow.holds Try.pinned (OpenSpec.ofChange beanWaysSpec)

/-- ITS FALSE NEIGHBOUR: 'it returns false'. Refute it at one input. -/
def beanWaysWrong : ChangeSpec := { name := "beanWays", fn := fun _ => fun
  | [d1, d2, d3] => { results := [.lit (.bool false)], args := [d1, d2, d3] }
  | _ => none }
def BeanWaysWrongFalsely : Prop := beanWaysRow.holds Try.pinned (OpenSpec.ofChange beanWaysWrong)

/-- 'shearworkslaw03.BeanKnown': WHATEVER THE INPUT: true; the input reads as it did. -/
def beanKnownSpec : ChangeSpec := { name := "beanKnown", fn := fun _ => fun
  | [d1, d2] => { results := [.lit (.bool true)], args := [d1, d2] }
  | _ => none }
def beanKnownRow : OpenClaim := { program := "ytjbjmoghloabpaa", sum := "1292922695cf801c1d7257045bb07bc6c2ce812c9d0d2a9e20ce5c67c6b939e3", func := "shearworks/shearworkslaw03.BeanKnown", spec := "beanKnown", unfollowed := true, recurses := true, plainKeys := false, apart := false }
def BeanKnownSaid : Prop := beanKnownRow.holds Try.pinned (OpenSpec.ofChange beanKnownSpec)

/-- ITS FALSE NEIGHBOUR: 'it returns false'. Refute it at one input. -/
def beanKnownWrong : ChangeSpec := { name := "beanKnown", fn := fun _ => fun
  | [d1, d2] => { results := [.lit (.bool false)], args := [d1, d2] }
  | _ => none }
def BeanKnownWrongFalsely : Prop := beanKnownRow.holds Try.pinned (OpenSpec.ofChange beanKnownWrong)

/-- 'shearworkslaw03.BeanQuiet': WHATEVER THE INPUT: true; the input reads as it did. -/
def beanQuietSpec : ChangeSpec := { name := "beanQuiet", fn := fun _ => fun
  | [d1, d2] => { results := [.lit (.bool true)], args := [d1, d2] }
  | _ => none }
def beanQuietRow : OpenClaim := { program := "ytjbjmoghloabpaa", sum := "1292922695cf801c1d7257045bb07bc6c2ce812c9d0d2a9e20ce5c67c6b939e3", func := "shearworks/shearworkslaw03.BeanQuiet", spec := "beanQuiet", unfollowed := true, recurses := true, plainKeys := false, apart := false }
def BeanQuietSaid : Prop := beanQuietRow.holds Try.pinned (OpenSpec.ofChange beanQuietSpec)

/-- ITS FALSE NEIGHBOUR: 'it returns false'. Refute it at one input. -/
def beanQuietWrong : ChangeSpec := { name := "beanQuiet", fn := fun _ => fun
  | [d1, d2] => { results := [.lit (.bool false)], args := [d1, d2] }
  | _ => none }
def BeanQuietWrongFalsely : Prop := beanQuietRow.holds Try.pinned (OpenSpec.ofChange beanQuietWrong)

/-- 'shearworkslaw03.BeanClash': WHATEVER THE INPUT: true; the input reads as it did. -/
def beanClashSpec : ChangeSpec := { name := "beanClash", fn := fun _ => fun
  | [d1, d2] => { results := [.lit (.bool true)], args := [d1, d2] }
  | _ => none }
def beanClashRow : OpenClaim := { program := "ytjbjmoghloabpaa", sum := "1292922695cf801c1d7257045bb07bc6c2ce812c9d0d2a9e20ce5c67c6b939e3", func := "shearworks/shearworkslaw03.BeanClash", spec := "beanClash", unfollowed := true, recurses := true, plainKeys := false, apart := false }
def BeanClashSaid : Prop := beanClashRow.holds Try.pinned (OpenSpec.ofChange beanClashSpec)

/-- ITS FALSE NEIGHBOUR: 'it returns false'. Refute it at one input. -/
def beanClashWrong : ChangeSpec := { name := "beanClash", fn := fun _ => fun
  | [d1, d2] => { results := [.lit (.bool false)], args := [d1, d2] }
  | _ => none }
def BeanClashWrongFalsely : Prop := beanClashRow.holds Try.pinned (OpenSpec.ofChange beanClashWrong)

/-- 'shearworkslaw03.BeanMore': WHATEVER THE INPUT: true; the input reads as it did. -/
def beanMoreSpec : ChangeSpec := { name := "beanMore", fn := fun _ => fun
  | [d1, d2, d3, d4] => { results := [.lit (.bool true)], args := [d1, d2, d3, d4] }
  | _ => none }
def beanMoreRow : OpenClaim := { program := "ytjbjmoghloabpaa", sum := "1292922695cf801c1d7257045bb07bc6c2ce812c9d0d2a9e20ce5c67c6b939e3", func := "shearworks/shearworkslaw03.BeanMore", spec := "beanMore", unfollowed := true, recurses := true, plainKeys := false, apart := false }
def BeanMoreSaid : Prop := beanMoreRow.holds Try.pinned (OpenSpec.ofChange beanMoreSpec)

/-- ITS FALSE NEIGHBOUR: 'it returns false'. Refute it at one input. -/
def beanMoreWrong : ChangeSpec := { name := "beanMore", fn := fun _ => fun
  | [d1, d2, d3, d4] => { results := [.lit (.bool false)], args := [d1, d2, d3, d4] }
  | _ => none }
def BeanMoreWrongFalsely : Prop := beanMoreRow.holds Try.pinned (OpenSpec.ofChange beanMoreWrong)

/- THE SECOND FORM. 'bulk': how many values and letters a reading holds, each counted each time it is reached (what is shared counts as often as it is met; a slice's spare places count too). A statement '..UptoSaid' is the law's where the arguments, and the package variables that the reading takes, are together of bulk at most 1048576: NARROWER than '..Said'. Prove '..Said' where nothing that the law and all that it calls make is longer than what came in: it says more and counts as full. Else prove '..UptoSaid'. A law counts once. -/
mutual
def uptoBulk {H : Type} : DataW H → Nat
  | .lit (.string bytes) => bytes.length + 1
  | .lit _ => 1
  | .nil => 1
  | .ptr d => uptoBulk d + 1
  | .slice elems spare => uptoBulkAll elems + uptoBulkAll spare + 1
  | .agg parts => uptoBulkAll parts + 1
  | .iface _ d => uptoBulk d + 1
  | .map entries => uptoBulkEntries entries + 1
  | .held _ => 1
def uptoBulkAll {H : Type} : List (DataW H) → Nat
  | [] => 0
  | d :: r => uptoBulk d + uptoBulkAll r
def uptoBulkEntries {H : Type} : List (Lit × DataW H) → Nat
  | [] => 0
  | x :: r => uptoBulkEntry x + uptoBulkEntries r
def uptoBulkEntry {H : Type} : Lit × DataW H → Nat
  | (.string bytes, d) => bytes.length + uptoBulk d + 1
  | (_, d) => uptoBulk d + 1
 end
def uptoSmall : (H : Type) → List (DataW H) → Bool := fun _ ds => decide (uptoBulkAll ds ≤ 1048576)
def OpenSpec.upto (s : _root_.Go.ChangeSpec) : _root_.Go.OpenSpec := { _root_.Go.OpenSpec.ofChange s with cond := some uptoSmall }

/-- 'shearworkslaw03.BeanTells', WHERE WHAT IT READS IS OF BULK AT MOST 1048576: true; the input reads as it did. -/
def beanTellsUptoRow : OpenClaim := { program := "ytjbjmoghloabpaa", sum := "1292922695cf801c1d7257045bb07bc6c2ce812c9d0d2a9e20ce5c67c6b939e3", func := "shearworks/shearworkslaw03.BeanTells", spec := "beanTells", unfollowed := true, recurses := true, plainKeys := false, apart := false, narrowed := true }
def BeanTellsUptoSaid : Prop := beanTellsUptoRow.holds Try.pinned (OpenSpec.upto beanTellsSpec)

/-- 'shearworkslaw03.BeanSets', WHERE WHAT IT READS IS OF BULK AT MOST 1048576: true; the input reads as it did. -/
def beanSetsUptoRow : OpenClaim := { program := "ytjbjmoghloabpaa", sum := "1292922695cf801c1d7257045bb07bc6c2ce812c9d0d2a9e20ce5c67c6b939e3", func := "shearworks/shearworkslaw03.BeanSets", spec := "beanSets", unfollowed := true, recurses := true, plainKeys := false, apart := false, narrowed := true }
def BeanSetsUptoSaid : Prop := beanSetsUptoRow.holds Try.pinned (OpenSpec.upto beanSetsSpec)

/-- 'shearworkslaw03.BeanNames', WHERE WHAT IT READS IS OF BULK AT MOST 1048576: true; the input reads as it did. -/
def beanNamesUptoRow : OpenClaim := { program := "ytjbjmoghloabpaa", sum := "1292922695cf801c1d7257045bb07bc6c2ce812c9d0d2a9e20ce5c67c6b939e3", func := "shearworks/shearworkslaw03.BeanNames", spec := "beanNames", unfollowed := true, recurses := true, plainKeys := false, apart := false, narrowed := true }
def BeanNamesUptoSaid : Prop := beanNamesUptoRow.holds Try.pinned (OpenSpec.upto beanNamesSpec)

/-- 'shearworkslaw03.BeanTrue', WHERE WHAT IT READS IS OF BULK AT MOST 1048576: true; the input reads as it did. -/
def beanTrueUptoRow : OpenClaim := { program := "ytjbjmoghloabpaa", sum := "1292922695cf801c1d7257045bb07bc6c2ce812c9d0d2a9e20ce5c67c6b939e3", func := "shearworks/shearworkslaw03.BeanTrue", spec := "beanTrue", unfollowed := true, recurses := true, plainKeys := false, apart := false, narrowed := true }
def BeanTrueUptoSaid : Prop := beanTrueUptoRow.holds Try.pinned (OpenSpec.upto beanTrueSpec)

/-- 'shearworkslaw03.BeanWays', WHERE WHAT IT READS IS OF BULK AT MOST 1048576: true; the input reads as it did. -/
def beanWaysUptoRow : OpenClaim := { program := "ytjbjmoghloabpaa", sum := "1292922695cf801c1d7257045bb07bc6c2ce812c9d0d2a9e20ce5c67c6b939e3", func := "shearworks/shearworkslaw03.BeanWays", spec := "beanWays", unfollowed := true, recurses := true, plainKeys := false, apart := false, narrowed := true }
def BeanWaysUptoSaid : Prop := beanWaysUptoRow.holds Try.pinned (OpenSpec.upto beanWaysSpec)

/-- 'shearworkslaw03.BeanKnown', WHERE WHAT IT READS IS OF BULK AT MOST 1048576: true; the input reads as it did. -/
def beanKnownUptoRow : OpenClaim := { program := "ytjbjmoghloabpaa", sum := "1292922695cf801c1d7257045bb07bc6c2ce812c9d0d2a9e20ce5c67c6b939e3", func := "shearworks/shearworkslaw03.BeanKnown", spec := "beanKnown", unfollowed := true, recurses := true, plainKeys := false, apart := false, narrowed := true }
def BeanKnownUptoSaid : Prop := beanKnownUptoRow.holds Try.pinned (OpenSpec.upto beanKnownSpec)

/-- 'shearworkslaw03.BeanQuiet', WHERE WHAT IT READS IS OF BULK AT MOST 1048576: true; the input reads as it did. -/
def beanQuietUptoRow : OpenClaim := { program := "ytjbjmoghloabpaa", sum := "1292922695cf801c1d7257045bb07bc6c2ce812c9d0d2a9e20ce5c67c6b939e3", func := "shearworks/shearworkslaw03.BeanQuiet", spec := "beanQuiet", unfollowed := true, recurses := true, plainKeys := false, apart := false, narrowed := true }
def BeanQuietUptoSaid : Prop := beanQuietUptoRow.holds Try.pinned (OpenSpec.upto beanQuietSpec)

/-- 'shearworkslaw03.BeanClash', WHERE WHAT IT READS IS OF BULK AT MOST 1048576: true; the input reads as it did. -/
def beanClashUptoRow : OpenClaim := { program := "ytjbjmoghloabpaa", sum := "1292922695cf801c1d7257045bb07bc6c2ce812c9d0d2a9e20ce5c67c6b939e3", func := "shearworks/shearworkslaw03.BeanClash", spec := "beanClash", unfollowed := true, recurses := true, plainKeys := false, apart := false, narrowed := true }
def BeanClashUptoSaid : Prop := beanClashUptoRow.holds Try.pinned (OpenSpec.upto beanClashSpec)

/-- 'shearworkslaw03.BeanMore', WHERE WHAT IT READS IS OF BULK AT MOST 1048576: true; the input reads as it did. -/
def beanMoreUptoRow : OpenClaim := { program := "ytjbjmoghloabpaa", sum := "1292922695cf801c1d7257045bb07bc6c2ce812c9d0d2a9e20ce5c67c6b939e3", func := "shearworks/shearworkslaw03.BeanMore", spec := "beanMore", unfollowed := true, recurses := true, plainKeys := false, apart := false, narrowed := true }
def BeanMoreUptoSaid : Prop := beanMoreUptoRow.holds Try.pinned (OpenSpec.upto beanMoreSpec)

end Rows
end Go.Proofs.Ytjbjmoghloabpaa
