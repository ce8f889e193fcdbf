/- More steps of drawn regions. -/
import Derived.Test.YteeinehpneppnaaGreatOrd
set_option linter.unusedVariables false
namespace Go.Ord
section
variable {P : Program} {H : World → Prop} {Q : Exit → Act → World → Prop} {k : Nat} {l : List (Nat × Nat)} {a : Act} {w : World} {lo : List Oper}
variable {d : Option Tmp} {ty t : TypeId} {pos : String} {af : Array Edge} {g : Option (Nat × Bool)} {x y i : Operand}
/-- An element's address among effects. -/
theorem wild_idx (v : Value) (ho : lo[k]? = some ⟨d, .indexAddr t x i, ty, pos, af, g⟩) (hv : ∀ W, H W → yields P ⟨d, .indexAddr t x i, ty, pos, af, g⟩ a W v)
    (h : ∀ K : Act → World → Prop, (∀ a, walk P lo.toArray H Q l a w → K a w) → wpList P lo.toArray (Exit.then K (fun _ _ _ => False)) [⟨d, .move (.const v), ty, pos, af, g⟩] a w) : walk P lo.toArray H Q ((k, 1) :: l) a w :=
  walk_wild_as ho v hv h
/-- A struct that is built among effects. -/
theorem wild_build (v : Value) {fs : Array (Nat × Operand)} (ho : lo[k]? = some ⟨d, .build t fs, ty, pos, af, g⟩) (hv : ∀ W, H W → yields P ⟨d, .build t fs, ty, pos, af, g⟩ a W v)
    (h : ∀ K : Act → World → Prop, (∀ a, walk P lo.toArray H Q l a w → K a w) → wpList P lo.toArray (Exit.then K (fun _ _ _ => False)) [⟨d, .move (.const v), ty, pos, af, g⟩] a w) : walk P lo.toArray H Q ((k, 1) :: l) a w :=
  walk_wild_as ho v hv h
end
end Go.Ord
