/- OverseerNames: the closed facts of the row, each by itself. -/
import Derived.Test.YtbapgefodmmikaaGreatDoorRows
import Derived.JoinedOf
import Derived.KernelRfl
set_option linter.unusedVariables false
namespace Go.Proofs.YtbapgefodmmikaaGreatDoor
set_option maxRecDepth 100000 in
theorem overseerNames_fact0 : (Rows.overseerNamesRow.wf (OpenSpec.ofChange Rows.overseerNamesSpec)) = true := by kernel_rfl
set_option maxRecDepth 100000 in
theorem prog_fact1 : (laidOutB Tryz.pinned.checked.prog) = true := by kernel_rfl
set_option maxRecDepth 100000 in
theorem prog_fact2 : (mapsRowed Tryz.pinned.checked.prog) = true := by kernel_rfl
set_option maxRecDepth 100000 in
theorem overseerNames_fact3 : (Tryz.f4.params.all (Tryz.pinned.checked.prog.readableRec ·)) = true := by kernel_rfl
set_option maxRecDepth 100000 in
theorem overseerNames_fact4 : (namedTie Tryz.pinned.checked.prog Rows.overseerNamesRow.named Rows.overseerNamesSpec.vars) = true := by kernel_rfl
set_option maxRecDepth 100000 in
theorem overseerNames_fact5 : ((Rows.overseerNamesRow.stops == [])) = true := by kernel_rfl
set_option maxRecDepth 100000 in
theorem prog_fact6 : ((Tryz.pinned.checked.prog.stops == [])) = true := by kernel_rfl
set_option maxRecDepth 100000 in
theorem overseerNames_fact7 : ((Rows.overseerNamesRow.knobs == [])) = true := by kernel_rfl
set_option maxRecDepth 100000 in
theorem prog_fact8 : ((Tryz.pinned.checked.prog.stopKnobs == [])) = true := by kernel_rfl
set_option maxRecDepth 100000 in
theorem overseerNames_fact9 : ((Rows.overseerNamesRow.inPlace == Tryz.pinned.checked.prog.inPlace 4)) = true := by kernel_rfl
set_option maxRecDepth 100000 in
theorem overseerNames_fact10 : ((Rows.overseerNamesRow.unfollowed == Tryz.pinned.checked.prog.unfollowed 4)) = true := by kernel_rfl
set_option maxRecDepth 100000 in
theorem overseerNames_fact11 : ((Rows.overseerNamesRow.recurses == Tryz.pinned.checked.prog.recurses 4)) = true := by kernel_rfl
set_option maxRecDepth 100000 in
theorem overseerNames_fact12 : ((Rows.overseerNamesRow.named == Tryz.pinned.checked.prog.varsNamed 4)) = true := by kernel_rfl
set_option maxRecDepth 100000 in
theorem overseerNames_fact13 : ((Rows.overseerNamesRow.maps == (Tryz.f4.params.toList ++ Rows.overseerNamesSpec.plain.varTypes Tryz.pinned.checked.prog).any (Tryz.pinned.checked.prog.mapsRec ·))) = true := by kernel_rfl
set_option maxRecDepth 100000 in
theorem overseerNames_fact14 : ((Rows.overseerNamesRow.ifaces == (Tryz.f4.params.toList ++ Rows.overseerNamesSpec.plain.varTypes Tryz.pinned.checked.prog).any (Tryz.pinned.checked.prog.ifacesRec ·))) = true := by kernel_rfl
set_option maxRecDepth 100000 in
theorem overseerNames_fact15 : ((Rows.overseerNamesRow.mapsOut == Tryz.pinned.checked.prog.mapsAmong Tryz.f4.resultTypes.toList)) = true := by kernel_rfl
set_option maxRecDepth 100000 in
theorem overseerNames_fact16 : ((Rows.overseerNamesRow.loops == (Tryz.f4.params.toList ++ Rows.overseerNamesSpec.plain.varTypes Tryz.pinned.checked.prog).any (Tryz.pinned.checked.prog.loopsFrom ·))) = true := by kernel_rfl
set_option maxRecDepth 100000 in
theorem overseerNames_fact17 : ((Rows.overseerNamesRow.wideKeys == (Tryz.f4.params.toList ++ Rows.overseerNamesSpec.plain.varTypes Tryz.pinned.checked.prog ++ Tryz.f4.resultTypes.toList).any (Tryz.pinned.checked.prog.wideKeysFrom ·))) = true := by kernel_rfl
set_option maxRecDepth 100000 in
theorem overseerNames_fact18 : (Rows.overseerNamesSpec.vars.all (Tryz.pinned.checked.prog.varReadable ·)) = true := by kernel_rfl
set_option maxRecDepth 100000 in
theorem overseerNames_fact19 : (Tryz.f4.resultTypes.all (fun t => Tryz.pinned.checked.prog.readableRec t && decide (t < Tryz.pinned.checked.prog.types.size))) = true := by kernel_rfl
set_option maxRecDepth 100000 in
theorem overseerNames_fact20 : ((Rows.overseerNamesRow.ifacesOut == Tryz.f4.resultTypes.toList.any (Tryz.pinned.checked.prog.ifacesRec ·))) = true := by kernel_rfl
set_option maxRecDepth 100000 in
theorem overseerNames_fact21 : ((Rows.overseerNamesRow.loopsOut == Tryz.f4.resultTypes.toList.any (Tryz.pinned.checked.prog.loopsFrom ·))) = true := by kernel_rfl
set_option maxRecDepth 100000 in
theorem overseerNames_fact22 : ((Rows.overseerNamesRow.plainKeys == Tryz.pinned.checked.prog.plainKeys)) = true := by kernel_rfl
set_option maxRecDepth 100000 in
theorem overseerNames_fact23 : (Rows.overseerNamesRow.shortTexts.isNone) = true := by kernel_rfl
set_option maxRecDepth 100000 in
theorem prog_fact24 : (Tryz.pinned.checked.prog.stopsHeard) = true := by kernel_rfl
set_option maxRecDepth 100000 in
theorem prog_fact25 : (Tryz.pinned.checked.prog.mayEnter) = true := by kernel_rfl
set_option maxRecDepth 100000 in
theorem overseerNames_fact26 : ((Rows.overseerNamesRow.lifted == Tryz.pinned.checked.prog.liftsFinal)) = true := by kernel_rfl
set_option maxRecDepth 100000 in
theorem overseerNames_fact27 : ((Tryz.pinned.checked.prog.make == some Rows.overseerNamesRow.make)) = true := by kernel_rfl
set_option maxRecDepth 100000 in
theorem overseerNames_fact28 : ((Rows.overseerNamesRow.kinds == (if Rows.overseerNamesRow.domain.isEmpty then [] else Tryz.f4.params.toList.map fun t => match Tryz.pinned.checked.prog.underlying t with | some (.int k) => some k | _ => none))) = true := by kernel_rfl
set_option maxRecDepth 100000 in
theorem overseerNames_fact29 : ((Rows.overseerNamesRow.pinned == Rows.overseerNamesRow.pinnedBy)) = true := by kernel_rfl
set_option maxRecDepth 100000 in
theorem overseerNames_fact30 : ((Rows.overseerNamesRow.veiled == (Tryz.f4.params.toList ++ Rows.overseerNamesSpec.plain.varTypes Tryz.pinned.checked.prog ++ Tryz.f4.resultTypes.toList).any (Tryz.pinned.checked.prog.veiledRec ·))) = true := by kernel_rfl
set_option maxRecDepth 100000 in
theorem overseerNames_fact31 : (Rows.overseerNamesRow.veiledFits Tryz.pinned.checked.prog Tryz.f4.params.toList (Tryz.f4.params.toList ++ Rows.overseerNamesSpec.plain.varTypes Tryz.pinned.checked.prog ++ Tryz.f4.resultTypes.toList)) = true := by kernel_rfl
set_option maxRecDepth 100000 in
theorem overseerNames_facts : joinedFacts Tryz.pinned.checked.prog 4 Tryz.f4 Rows.overseerNamesSpec Rows.overseerNamesRow = true := by
  unfold joinedFacts
  simp only [Bool.and_eq_true]
  exact ⟨⟨⟨⟨⟨⟨⟨⟨⟨⟨⟨⟨⟨⟨⟨⟨⟨⟨⟨⟨⟨⟨⟨⟨⟨⟨⟨⟨⟨⟨⟨overseerNames_fact0, prog_fact1⟩, prog_fact2⟩, overseerNames_fact3⟩, overseerNames_fact4⟩, overseerNames_fact5⟩, prog_fact6⟩, overseerNames_fact7⟩, prog_fact8⟩, overseerNames_fact9⟩, overseerNames_fact10⟩, overseerNames_fact11⟩, overseerNames_fact12⟩, overseerNames_fact13⟩, overseerNames_fact14⟩, overseerNames_fact15⟩, overseerNames_fact16⟩, overseerNames_fact17⟩, overseerNames_fact18⟩, overseerNames_fact19⟩, overseerNames_fact20⟩, overseerNames_fact21⟩, overseerNames_fact22⟩, overseerNames_fact23⟩, prog_fact24⟩, prog_fact25⟩, overseerNames_fact26⟩, overseerNames_fact27⟩, overseerNames_fact28⟩, overseerNames_fact29⟩, overseerNames_fact30⟩, overseerNames_fact31⟩
end Go.Proofs.YtbapgefodmmikaaGreatDoor
