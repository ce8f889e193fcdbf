/- shearworksref01: Ahead. -/
import Derived.Test.YteeinehpneppnaaGreatMoA
set_option linter.unusedVariables false
set_option linter.unusedSimpArgs false
namespace Go.Proofs.YteeinehpneppnaaGreat
open Go.RowKit Go.Proofs
attribute [local irreducible] Ord.walk
def shedN (m : Mb) : Nat := m.places.length - 1
def aheadN (m : Mb) (i k : Nat) : Nat := (TM m).countP fun t => decide (dayAt m t.1 t.2 i (shedN m) < dayAt m t.1 t.2 k (shedN m))
def gradeM (n all : Nat) : Int := if n = all then 2 else if n = 0 then 0 else 1
def aheadR (m : Mb) (i k : Int) : Int × Int := if knownE m (herdB m i && herdB m k) = 0 then (gradeM (aheadN m i.toNat k.toNat) (TM m).length, 0) else (0, knownE m (herdB m i && herdB m k))
end Go.Proofs.YteeinehpneppnaaGreat
