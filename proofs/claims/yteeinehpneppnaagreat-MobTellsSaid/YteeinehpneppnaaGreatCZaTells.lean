/- MobTells: for all ways, mobs, places and days what Comes, Where, Stretch and Safe return is what the document defines; no condition. -/
import Derived.Test.YteeinehpneppnaaGreatRows
import Derived.Test.YteeinehpneppnaaGreatV07
import Derived.WalkKit
import Derived.ProofKit
import Derived.OpenShut
import Derived.SizedLaws
import Derived.WideKeyElems2
import Derived.Carry
set_option linter.unusedVariables false
set_option linter.unusedSimpArgs false
namespace Go.Proofs.YteeinehpneppnaaGreat
open Go.ChangeShapes Go.WideShapes Go.ChangeAt Go.RowKit Go.WideElems

theorem mobTells_own : ownKnob Tryz.prog.godebug = none := by kernel_rfl
theorem mobTells_laid : laidOutB Tryz.prog = true := by kernel_rfl
set_option maxRecDepth 100000 in
theorem mobTells_lifted (os : Os) (started : os.Started) (H : Type) (enc : TypeId × Value → H) :
    ReturnsInHanded {} Tryz.checked os 3 .any (Rows.mobTellsSpec.pre6 enc Tryz.prog Tryz.f3 Rows.mobTellsRow.domain false) (Rows.mobTellsSpec.post enc Tryz.prog Tryz.f3 false true false false) := by
  refine returnsInHanded_of_change (C := Tryz.checked) mobTells_own started (by kernel_rfl) Tryz.func3
    (ChangeSpec.witness6 (enc := enc) (C := Tryz.checked) false ⟨#[], #[.agg #[.slice none 0 0, .slice none 0 0, .slice none 0 0, .slice none 0 0], .int .i64 0, .int .i64 0, .int .i64 0], []⟩ 8 (by kernel_rfl) (by kernel_rfl) (by kernel_rfl) (by kernel_rfl)) ?_
  intro W base args ds gs before hval0 hW hcnd _
  have hval : ∀ (j : Nat) t v, Tryz.f3.params[j]? = some t → args[j]? = some v → Value.okWide Tryz.prog W .any base t v := hval0
  have hW' := hW
  obtain ⟨p, q, hA0, hV, rfl, hfz, hnd⟩ := hW
  have hA : DataW.TrodAll enc Tryz.prog W 0 (fun _ => true) true Tryz.f3.params.toList args.toList ds p := hA0
  rw [Tryz.params3] at hA hval
  obtain ⟨v0, v1, v2, v3, d0, d1, d2, d3, p0, p1, p2, p3, rfl, rfl, rfl, h0, h1, h2, h3⟩ := trodAll_four hA
  obtain ⟨rfl, rfl⟩ := trodVars_none hV
  clear hA0 hval0
  simp only [List.append_nil] at hW'
  have hlt := hW'.lt
  have r0 := h0
  obtain ⟨m0, A0, e0, hm0, la0, lb0, lc0, ld0⟩ := open_mob (hval 0 27 v0 rfl rfl) h0
  subst e0
  have r1 := h1
  obtain ⟨n1, e1, _, _, wn1⟩ := open_int Tryz.underlying3 (hval 1 3 v1 rfl rfl) h1
  subst e1
  have r2 := h2
  obtain ⟨n2, e2, _, _, wn2⟩ := open_int Tryz.underlying3 (hval 2 3 v2 rfl rfl) h2
  subst e2
  have r3 := h3
  obtain ⟨n3, e3, _, _, wn3⟩ := open_int Tryz.underlying3 (hval 3 3 v3 rfl rfl) h3
  subst e3
  refine (w_MobTells m0 A0 n1 n2 n3 W hm0 la0 lb0 lc0 ld0).mono fun e W' ⟨he, hb⟩ => ?_
  subst he
  have s0 : DataW.Trod enc Tryz.prog W' 0 (fun b => decide (b < W.heap.size)) true 27 _ d0 _ := Below.trod mobTells_laid (by kernel_rfl) (of_decide_eq_true (by kernel_rfl)) r0 hb (fun x hx => by simpa using hlt x (by simp [hx]))
  have s1 : DataW.Trod enc Tryz.prog W' 0 (fun b => decide (b < W.heap.size)) true 3 _ d1 _ := Below.trod mobTells_laid (by kernel_rfl) (of_decide_eq_true (by kernel_rfl)) r1 hb (fun x hx => by simpa using hlt x (by simp [hx]))
  have s2 : DataW.Trod enc Tryz.prog W' 0 (fun b => decide (b < W.heap.size)) true 3 _ d2 _ := Below.trod mobTells_laid (by kernel_rfl) (of_decide_eq_true (by kernel_rfl)) r2 hb (fun x hx => by simpa using hlt x (by simp [hx]))
  have s3 : DataW.Trod enc Tryz.prog W' 0 (fun b => decide (b < W.heap.size)) true 3 _ d3 _ := Below.trod mobTells_laid (by kernel_rfl) (of_decide_eq_true (by kernel_rfl)) r3 hb (fun x hx => by simpa using hlt x (by simp [hx]))
  exact ⟨_, rfl, ⟨_, _, _, [], _, [], hW', trodAll_mk1 (shut_bool Tryz.underlying4 _), trodAll_mk4 s0 s1 s2 s3, rfl, hb.frame _, fun h => by cases h⟩⟩

theorem mobTells_holds : Rows.MobTellsSaid :=
  OpenClaim.holds_of_wide 3 Tryz.f3 rfl rfl rfl rfl rfl rfl rfl ⟨rfl, rfl, rfl, rfl, rfl⟩ rfl rfl rfl rfl rfl (by kernel_rfl) Tryz.func3 (by kernel_rfl)
    (of_decide_eq_true (by kernel_rfl)) (by unfold Func.isWrapper; first | (rw [if_pos (by decide +kernel)]; kernel_rfl) | (rw [if_neg (by decide +kernel)]; exact ⟨rfl, rfl⟩))
    (fun os started H enc _ => mobTells_lifted os started H enc)
#print axioms mobTells_holds
end Go.Proofs.YteeinehpneppnaaGreat
