/- More steps of drawn regions. -/
import Derived.Test.YteeinehpneppnaaGreatOrdC
set_option linter.unusedVariables false
namespace Go.Ord
section
variable {P : Program} {H : World → Prop} {Q : Exit → Act → World → Prop} {k : Nat} {l : List (Nat × Nat)} {a : Act} {w : World} {lo : List Oper}
variable {d : Option Tmp} {ty t t' : TypeId} {pos : String} {af : Array Edge} {g : Option (Nat × Bool)} {x y i : Operand} {bo : BinOp}
/-- A sum, a shift .. among effects. -/
theorem wild_bin (v : Value) (ho : lo[k]? = some ⟨d, .binOp bo t x y t', ty, pos, af, g⟩) (hv : ∀ W, H W → yields P ⟨d, .binOp bo t x y t', ty, pos, af, g⟩ a W v)
    (h : ∀ K : Act → World → Prop, (∀ a, walk P lo.toArray H Q l a w → K a w) → wpList P lo.toArray (Exit.then K (fun _ _ _ => False)) [⟨d, .move (.const v), ty, pos, af, g⟩] a w) : walk P lo.toArray H Q ((k, 1) :: l) a w :=
  walk_wild_as ho v hv h
end
end Go.Ord
