/- OverseerStruck: the closed facts of the row, each by itself. -/
import Derived.Test.YtbapgefodmmikaaGreatDoorRows
import Derived.JoinedOf
import Derived.KernelRfl
import Derived.Test.YtbapgefodmmikaaGreatDoorNmsFa
set_option linter.unusedVariables false
namespace Go.Proofs.YtbapgefodmmikaaGreatDoor
set_option maxRecDepth 100000 in
theorem overseerStruck_fact0 : (Rows.overseerStruckRow.wf (OpenSpec.ofChange Rows.overseerStruckSpec)) = true := by kernel_rfl
set_option maxRecDepth 100000 in
theorem overseerStruck_fact3 : (Tryz.f7.params.all (Tryz.pinned.checked.prog.readableRec ·)) = true := by kernel_rfl
set_option maxRecDepth 100000 in
theorem overseerStruck_fact4 : (namedTie Tryz.pinned.checked.prog Rows.overseerStruckRow.named Rows.overseerStruckSpec.vars) = true := by kernel_rfl
set_option maxRecDepth 100000 in
theorem overseerStruck_fact5 : ((Rows.overseerStruckRow.stops == [])) = true := by kernel_rfl
set_option maxRecDepth 100000 in
theorem overseerStruck_fact7 : ((Rows.overseerStruckRow.knobs == [])) = true := by kernel_rfl
set_option maxRecDepth 100000 in
theorem overseerStruck_fact9 : ((Rows.overseerStruckRow.inPlace == Tryz.pinned.checked.prog.inPlace 7)) = true := by kernel_rfl
set_option maxRecDepth 100000 in
theorem overseerStruck_fact10 : ((Rows.overseerStruckRow.unfollowed == Tryz.pinned.checked.prog.unfollowed 7)) = true := by kernel_rfl
set_option maxRecDepth 100000 in
theorem overseerStruck_fact11 : ((Rows.overseerStruckRow.recurses == Tryz.pinned.checked.prog.recurses 7)) = true := by kernel_rfl
set_option maxRecDepth 100000 in
theorem overseerStruck_fact12 : ((Rows.overseerStruckRow.named == Tryz.pinned.checked.prog.varsNamed 7)) = true := by kernel_rfl
set_option maxRecDepth 100000 in
theorem overseerStruck_fact13 : ((Rows.overseerStruckRow.maps == (Tryz.f7.params.toList ++ Rows.overseerStruckSpec.plain.varTypes Tryz.pinned.checked.prog).any (Tryz.pinned.checked.prog.mapsRec ·))) = true := by kernel_rfl
set_option maxRecDepth 100000 in
theorem overseerStruck_fact14 : ((Rows.overseerStruckRow.ifaces == (Tryz.f7.params.toList ++ Rows.overseerStruckSpec.plain.varTypes Tryz.pinned.checked.prog).any (Tryz.pinned.checked.prog.ifacesRec ·))) = true := by kernel_rfl
set_option maxRecDepth 100000 in
theorem overseerStruck_fact15 : ((Rows.overseerStruckRow.mapsOut == Tryz.pinned.checked.prog.mapsAmong Tryz.f7.resultTypes.toList)) = true := by kernel_rfl
set_option maxRecDepth 100000 in
theorem overseerStruck_fact16 : ((Rows.overseerStruckRow.loops == (Tryz.f7.params.toList ++ Rows.overseerStruckSpec.plain.varTypes Tryz.pinned.checked.prog).any (Tryz.pinned.checked.prog.loopsFrom ·))) = true := by kernel_rfl
set_option maxRecDepth 100000 in
theorem overseerStruck_fact17 : ((Rows.overseerStruckRow.wideKeys == (Tryz.f7.params.toList ++ Rows.overseerStruckSpec.plain.varTypes Tryz.pinned.checked.prog ++ Tryz.f7.resultTypes.toList).any (Tryz.pinned.checked.prog.wideKeysFrom ·))) = true := by kernel_rfl
set_option maxRecDepth 100000 in
theorem overseerStruck_fact18 : (Rows.overseerStruckSpec.vars.all (Tryz.pinned.checked.prog.varReadable ·)) = true := by kernel_rfl
set_option maxRecDepth 100000 in
theorem overseerStruck_fact19 : (Tryz.f7.resultTypes.all (fun t => Tryz.pinned.checked.prog.readableRec t && decide (t < Tryz.pinned.checked.prog.types.size))) = true := by kernel_rfl
set_option maxRecDepth 100000 in
theorem overseerStruck_fact20 : ((Rows.overseerStruckRow.ifacesOut == Tryz.f7.resultTypes.toList.any (Tryz.pinned.checked.prog.ifacesRec ·))) = true := by kernel_rfl
set_option maxRecDepth 100000 in
theorem overseerStruck_fact21 : ((Rows.overseerStruckRow.loopsOut == Tryz.f7.resultTypes.toList.any (Tryz.pinned.checked.prog.loopsFrom ·))) = true := by kernel_rfl
set_option maxRecDepth 100000 in
theorem overseerStruck_fact22 : ((Rows.overseerStruckRow.plainKeys == Tryz.pinned.checked.prog.plainKeys)) = true := by kernel_rfl
set_option maxRecDepth 100000 in
theorem overseerStruck_fact23 : (Rows.overseerStruckRow.shortTexts.isNone) = true := by kernel_rfl
set_option maxRecDepth 100000 in
theorem overseerStruck_fact26 : ((Rows.overseerStruckRow.lifted == Tryz.pinned.checked.prog.liftsFinal)) = true := by kernel_rfl
set_option maxRecDepth 100000 in
theorem overseerStruck_fact27 : ((Tryz.pinned.checked.prog.make == some Rows.overseerStruckRow.make)) = true := by kernel_rfl
set_option maxRecDepth 100000 in
theorem overseerStruck_fact28 : ((Rows.overseerStruckRow.kinds == (if Rows.overseerStruckRow.domain.isEmpty then [] else Tryz.f7.params.toList.map fun t => match Tryz.pinned.checked.prog.underlying t with | some (.int k) => some k | _ => none))) = true := by kernel_rfl
set_option maxRecDepth 100000 in
theorem overseerStruck_fact29 : ((Rows.overseerStruckRow.pinned == Rows.overseerStruckRow.pinnedBy)) = true := by kernel_rfl
set_option maxRecDepth 100000 in
theorem overseerStruck_fact30 : ((Rows.overseerStruckRow.veiled == (Tryz.f7.params.toList ++ Rows.overseerStruckSpec.plain.varTypes Tryz.pinned.checked.prog ++ Tryz.f7.resultTypes.toList).any (Tryz.pinned.checked.prog.veiledRec ·))) = true := by kernel_rfl
set_option maxRecDepth 100000 in
theorem overseerStruck_fact31 : (Rows.overseerStruckRow.veiledFits Tryz.pinned.checked.prog Tryz.f7.params.toList (Tryz.f7.params.toList ++ Rows.overseerStruckSpec.plain.varTypes Tryz.pinned.checked.prog ++ Tryz.f7.resultTypes.toList)) = true := by kernel_rfl
set_option maxRecDepth 100000 in
theorem overseerStruck_facts : joinedFacts Tryz.pinned.checked.prog 7 Tryz.f7 Rows.overseerStruckSpec Rows.overseerStruckRow = true := by
  unfold joinedFacts
  simp only [Bool.and_eq_true]
  exact ⟨⟨⟨⟨⟨⟨⟨⟨⟨⟨⟨⟨⟨⟨⟨⟨⟨⟨⟨⟨⟨⟨⟨⟨⟨⟨⟨⟨⟨⟨⟨overseerStruck_fact0, prog_fact1⟩, prog_fact2⟩, overseerStruck_fact3⟩, overseerStruck_fact4⟩, overseerStruck_fact5⟩, prog_fact6⟩, overseerStruck_fact7⟩, prog_fact8⟩, overseerStruck_fact9⟩, overseerStruck_fact10⟩, overseerStruck_fact11⟩, overseerStruck_fact12⟩, overseerStruck_fact13⟩, overseerStruck_fact14⟩, overseerStruck_fact15⟩, overseerStruck_fact16⟩, overseerStruck_fact17⟩, overseerStruck_fact18⟩, overseerStruck_fact19⟩, overseerStruck_fact20⟩, overseerStruck_fact21⟩, overseerStruck_fact22⟩, overseerStruck_fact23⟩, prog_fact24⟩, prog_fact25⟩, overseerStruck_fact26⟩, overseerStruck_fact27⟩, overseerStruck_fact28⟩, overseerStruck_fact29⟩, overseerStruck_fact30⟩, overseerStruck_fact31⟩
end Go.Proofs.YtbapgefodmmikaaGreatDoor
