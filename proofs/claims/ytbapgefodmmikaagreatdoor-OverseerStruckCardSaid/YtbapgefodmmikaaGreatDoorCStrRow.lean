/- OverseerStruck: what was noted and struck out again makes no difference, and as many strikes as there are notes leave none. On no condition but that the listed variables of Go's library are as its text lays them. -/
import Derived.Test.YtbapgefodmmikaaGreatDoorLMin
import Derived.Test.YtbapgefodmmikaaGreatDoorRows
import Derived.Test.YtbapgefodmmikaaGreatDoorTie
import Derived.Test.YtbapgefodmmikaaGreatDoorCards
import Derived.Test.YtbapgefodmmikaaGreatDoorStrFa
import Derived.Test.YtbapgefodmmikaaGreatDoorNmsCa
import Derived.Test.YtbapgefodmmikaaGreatDoorL37
import Derived.WalkKit
import Derived.ProofKit
import Derived.OpenShut
import Derived.SizedLaws
import Derived.WideKeyElems2
import Derived.Carry
import Derived.SevenTiedAt
set_option linter.unusedVariables false
set_option linter.unusedSimpArgs false
namespace Go.Proofs.YtbapgefodmmikaaGreatDoor
open Go.ChangeShapes Go.WideShapes Go.ChangeAt Go.RowKit Go.WideElems
set_option maxRecDepth 100000 in
theorem Zgy (os : Os) (args : Array Value) : laidMetH Tryz.prog Zp8 ((World.laidAll Tryz.prog os Zp8).forCall (fun _ _ => 0) ⟨#[], args, []⟩).memory := by
  rw [MakeChecks.laidMetH_plain _ _ _ (by kernel_rfl)]
  exact laidMet_laidAll args (by kernel_rfl) (by kernel_rfl)
set_option maxRecDepth 100000 in
theorem Zez (os : Os) (started : os.Started) (H : Type) (enc : TypeId × Value → H) :
    ReturnsInHanded {} Tryz.checked os 7 .any (fun w args => (Rows.overseerStruckSpec.pre enc Tryz.prog Tryz.f7 [] false w args ∧ laidMetH Tryz.prog Zp8 w) ∧ sizedMet enc Tryz.prog Tryz.f7 (OpenSpec.ofChange Rows.overseerStruckSpec) false w args)
      (Rows.overseerStruckSpec.post enc Tryz.prog Tryz.f7 false true false false) := by
  refine lifts2 (C := Tryz.checked) (X := fun w _ => laidMetH Tryz.prog Zp8 w) (fun _ _ _ hh h => h.of_heap hh) own_knob started (by kernel_rfl) Tryz.func7
    (ChangeSpec.witness_shaped (enc := enc) (C := Tryz.checked) (os := os) (X := fun w _ => laidMetH Tryz.prog Zp8 w) false (World.laidAll Tryz.prog os Zp8) #[.agg #[.int .i64 0, .int .i64 0, .int .i64 0, .int .i64 0, .int .i64 0, .int .i64 0, .slice none 0 0, .slice none 0 0, .int .i64 0, .int .i64 0, .int .i64 0], .slice none 0 0, .string ⟨#[]⟩] 8 (World.laidAll_os _ _ _) (World.shaped_of_ZipB (by kernel_rfl) (by kernel_rfl)) (by kernel_rfl) (by kernel_rfl) (by kernel_rfl) (Zgy os _)) ?_
  intro W base args ds gs before hval0 hW hL0 hsh hz0
  have hz1 := hz0.weights hW
  have hL : laidMet Tryz.prog Zp8 W := by
    have hL1 : laidMetH Tryz.prog Zp8 W := hL0
    rwa [MakeChecks.laidMetH_plain _ _ _ (by kernel_rfl)] at hL1
  have hVars : VarsOk W := vars_ok hL hsh
  have hval : ∀ (j : Nat) t v, Tryz.f7.params[j]? = some t → args[j]? = some v → Value.okWide Tryz.prog W .any base t v := hval0
  have hW' := hW
  obtain ⟨p, q, hA0, hV, rfl, hfz, hnd⟩ := hW
  have hA : DataW.TrodAll enc Tryz.prog W 0 (fun _ => true) true Tryz.f7.params.toList args.toList ds p := hA0
  rw [Tryz.params7] at hA hval
  obtain ⟨v0, v1, v2, d0, d1, d2, p0, p1, p2, rfl, rfl, rfl, h0, h1, h2⟩ := trodAll_three hA
  obtain ⟨rfl, rfl⟩ := trodVars_none hV
  clear hA0 hval0
  simp only [List.append_nil] at hW'
  have hlt := hW'.lt
  have r0 := h0
  obtain ⟨b0, sa0, sc0, fa0, fc0, e0, hs0, hf0, la0, lb0⟩ := Zts (hval 0 27 v0 rfl rfl) h0
  subst e0
  have r1 := h1
  obtain ⟨ss1, ta1, tc1, e1, ht1, lt1, lm1⟩ := Ztr (hval 1 28 v1 rfl rfl) h1
  subst e1
  have z1 := Zqm h1 (by simp only [Tryz.params7, DataW.weightsEach, List.cons_append, List.nil_append, List.all_append, Bool.and_eq_true] at hz1; exact hz1.2.1)
  have r2 := h2
  obtain ⟨t2, e2, lx2⟩ := Zvy (hval 2 9 v2 rfl rfl) h2
  subst e2
  refine (Zis b0 sa0 sc0 fa0 fc0 ss1 ta1 tc1 t2 W hVars hs0 hf0 la0 lb0 ht1 z1 lm1 lx2).mono fun e W' ⟨he, hb⟩ => ?_
  subst he
  have s0 : DataW.Trod enc Tryz.prog W' 0 (fun b => decide (b < W.heap.size)) true 27 _ d0 _ := Below.trod Zj3 (by kernel_rfl) (of_decide_eq_true (by kernel_rfl)) r0 hb (fun x hx => by simpa using hlt x (by simp [hx]))
  have s1 : DataW.Trod enc Tryz.prog W' 0 (fun b => decide (b < W.heap.size)) true 28 _ d1 _ := Below.trod Zj3 (by kernel_rfl) (of_decide_eq_true (by kernel_rfl)) r1 hb (fun x hx => by simpa using hlt x (by simp [hx]))
  have s2 : DataW.Trod enc Tryz.prog W' 0 (fun b => decide (b < W.heap.size)) true 9 _ d2 _ := Below.trod Zj3 (by kernel_rfl) (of_decide_eq_true (by kernel_rfl)) r2 hb (fun x hx => by simpa using hlt x (by simp [hx]))
  exact ⟨_, rfl, ⟨_, _, _, [], _, [], hW', trodAll_mk1 (shut_bool Tryz.underlying4 _), trodAll_mk3 s0 s1 s2, rfl, hb.frame _, fun h => by cases h⟩⟩

theorem Zey : Tryz.pinned.checked.prog.funcNamed Rows.overseerStruckRow.func = some 7 := by kernel_rfl
theorem Zg1 : Rows.OverseerStruckSaid :=
  OpenClaim.holds_of_wide 7 Tryz.f7 rfl rfl rfl rfl rfl rfl rfl ⟨rfl, rfl, rfl, rfl, rfl⟩ rfl rfl rfl rfl rfl Zey Tryz.func7 overseerStruck_facts
    (of_decide_eq_true (by kernel_rfl)) (by unfold Func.isWrapper; first | (rw [if_pos (by decide +kernel)]; kernel_rfl) | (rw [if_neg (by decide +kernel)]; exact ⟨rfl, rfl⟩))
    (fun os started H enc _ => Zez os started H enc)
theorem Zhr : Rows.overseerStruckRow.wfByText (OpenSpec.ofChange Rows.overseerStruckSpec) = true := by kernel_rfl
theorem Zgl : false = Rows.overseerStruckRow.goesBy Tryz.pinned.checked.prog := by kernel_rfl
theorem overseerStruck_named : Tryz.prog.funcNamed "shearworks/shearworkslaw15.OverseerStruck" = some 7 := by kernel_rfl
theorem overseerStruck_card : Rows.OverseerStruckCardSaid :=
  Claim7.holds_tied_plain_at .later [] [.data, .data, .data, .data, .sentinel, .sentinel, .pinned] true (true, "0c2597285c1caf28bf0c01c994265cfdb4333da2917eb009d68c610867dabc9a") true
    Zg1 (fun _ h => by cases h) Zhr (fun _ h => by cases h) overseerStruck_row_tie rfl ⟨rfl, rfl⟩ prog_main rfl
    (fun f fn hf hfn => by
      obtain rfl : f = 7 := Option.some.inj (overseerStruck_named.symm.trans hf) |>.symm
      obtain rfl : fn = Tryz.f7 := (Option.some.inj (Tryz.func7.symm.trans hfn)).symm
      exact ⟨prog_looks, fun j t ht => by
        rw [Tryz.params7] at ht
        have hm : t ∈ [27, 28, 9] := by simpa using Array.mem_of_getElem? ht
        have hall : ([27, 28, 9].all fun u => !Tryz.prog.wantsStandIn u) = true := by kernel_rfl
        exact (show Tryz.prog.wantsStandIn t = false by simpa using List.all_eq_true.1 hall t hm)⟩)
    Zgl
#print axioms overseerStruck_card
end Go.Proofs.YtbapgefodmmikaaGreatDoor
