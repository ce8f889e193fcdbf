/- OverseerNames: errors, numbers and limits have the document's values, and the chapter's examples hold. On no condition but that the listed variables of Go's library are as its text lays them. -/
import Derived.Test.YtbapgefodmmikaaGreatDoorKMin
import Derived.Test.YtbapgefodmmikaaGreatDoorRows
import Derived.Test.YtbapgefodmmikaaGreatDoorTie
import Derived.Test.YtbapgefodmmikaaGreatDoorCards
import Derived.Test.YtbapgefodmmikaaGreatDoorNmsFa
import Derived.Test.YtbapgefodmmikaaGreatDoorNmsCa
import Derived.Test.YtbapgefodmmikaaGreatDoorK36
import Derived.WalkKit
import Derived.ProofKit
import Derived.OpenShut
import Derived.SizedLaws
import Derived.WideKeyElems2
import Derived.Carry
import Derived.SevenTiedAt
set_option linter.unusedVariables false
set_option linter.unusedSimpArgs false
namespace Go.Proofs.YtbapgefodmmikaaGreatDoor
open Go.ChangeShapes Go.WideShapes Go.ChangeAt Go.RowKit Go.WideElems
set_option maxRecDepth 100000 in
theorem Zhf (os : Os) (args : Array Value) : laidMetH Tryz.prog Zok ((World.laidAll Tryz.prog os Zok).forCall (fun _ _ => 0) ⟨#[], args, []⟩).memory := by
  rw [MakeChecks.laidMetH_plain _ _ _ (by kernel_rfl)]
  exact laidMet_laidAll args (by kernel_rfl) (by kernel_rfl)
set_option maxRecDepth 100000 in
theorem Zfv (os : Os) (started : os.Started) (H : Type) (enc : TypeId × Value → H) :
    ReturnsInHanded {} Tryz.checked os 4 .any (fun w args => (Rows.overseerNamesSpec.pre enc Tryz.prog Tryz.f4 [] false w args ∧ laidMetH Tryz.prog Zok w) ∧ sizedMet enc Tryz.prog Tryz.f4 (OpenSpec.ofChange Rows.overseerNamesSpec) false w args)
      (Rows.overseerNamesSpec.post enc Tryz.prog Tryz.f4 false true false false) := by
  refine lifts (C := Tryz.checked) (X := fun w _ => laidMetH Tryz.prog Zok w) (fun _ _ _ hh h => h.of_heap hh) own_knob started (by kernel_rfl) Tryz.func4
    (ChangeSpec.witness_shaped (enc := enc) (C := Tryz.checked) (os := os) (X := fun w _ => laidMetH Tryz.prog Zok w) false (World.laidAll Tryz.prog os Zok) #[] 8 (World.laidAll_os _ _ _) (World.shaped_of_ZipB (by kernel_rfl) (by kernel_rfl)) (by kernel_rfl) (by kernel_rfl) (by kernel_rfl) (Zhf os _)) ?_
  intro W base args ds gs before hval0 hW hL0 hsh
  have hL : laidMet Tryz.prog Zok W := by
    have hL1 : laidMetH Tryz.prog Zok W := hL0
    rwa [MakeChecks.laidMetH_plain _ _ _ (by kernel_rfl)] at hL1
  have hVars : VarsOk W := vars_ok hL hsh
  have hval : ∀ (j : Nat) t v, Tryz.f4.params[j]? = some t → args[j]? = some v → Value.okWide Tryz.prog W .any base t v := hval0
  have hW' := hW
  obtain ⟨p, q, hA0, hV, rfl, hfz, hnd⟩ := hW
  have hA : DataW.TrodAll enc Tryz.prog W 0 (fun _ => true) true Tryz.f4.params.toList args.toList ds p := hA0
  rw [Tryz.params4] at hA hval
  obtain ⟨rfl, rfl, rfl⟩ := trodAll_none hA
  obtain ⟨rfl, rfl⟩ := trodVars_none hV
  clear hA0 hval0
  simp only [List.append_nil] at hW'
  have hlt := hW'.lt
  refine (Ziw  W hVars ).mono fun e W' ⟨he, hb⟩ => ?_
  subst he
  exact ⟨_, rfl, ⟨_, _, _, [], _, [], hW', trodAll_mk1 (shut_bool Tryz.underlying4 _), trodAll_mk0, rfl, hb.frame _, fun h => by cases h⟩⟩

theorem Zfu : Tryz.pinned.checked.prog.funcNamed Rows.overseerNamesRow.func = some 4 := by kernel_rfl
theorem Zgd : Rows.OverseerNamesSaid :=
  OpenClaim.holds_of_wide 4 Tryz.f4 rfl rfl rfl rfl rfl rfl rfl ⟨rfl, rfl, rfl, rfl, rfl⟩ rfl rfl rfl rfl rfl Zfu Tryz.func4 overseerNames_facts
    (of_decide_eq_true (by kernel_rfl)) (by unfold Func.isWrapper; first | (rw [if_pos (by decide +kernel)]; kernel_rfl) | (rw [if_neg (by decide +kernel)]; exact ⟨rfl, rfl⟩))
    (fun os started H enc _ => Zfv os started H enc)
theorem Zij : Rows.overseerNamesRow.wfByText (OpenSpec.ofChange Rows.overseerNamesSpec) = true := by kernel_rfl
theorem Zgq : false = Rows.overseerNamesRow.goesBy Tryz.pinned.checked.prog := by kernel_rfl
theorem overseerNames_named : Tryz.prog.funcNamed "shearworks/shearworkslaw15.OverseerNames" = some 4 := by kernel_rfl
theorem overseerNames_card : Rows.OverseerNamesCardSaid :=
  Claim7.holds_tied_plain_at .later [] [.data, .data, .data, .data, .sentinel, .sentinel, .pinned] true (true, "0c2597285c1caf28bf0c01c994265cfdb4333da2917eb009d68c610867dabc9a") true
    Zgd (fun _ h => by cases h) Zij (fun _ h => by cases h) overseerNames_row_tie rfl ⟨rfl, rfl⟩ prog_main rfl
    (fun f fn hf hfn => by
      obtain rfl : f = 4 := Option.some.inj (overseerNames_named.symm.trans hf) |>.symm
      obtain rfl : fn = Tryz.f4 := (Option.some.inj (Tryz.func4.symm.trans hfn)).symm
      exact ⟨prog_looks, fun j t ht => by
        rw [Tryz.params4] at ht
        simp at ht⟩)
    Zgq
#print axioms overseerNames_card
end Go.Proofs.YtbapgefodmmikaaGreatDoor
