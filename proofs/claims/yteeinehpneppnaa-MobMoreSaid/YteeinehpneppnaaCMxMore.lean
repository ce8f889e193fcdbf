/- The law MobMore, as its row says it. -/
import Derived.Test.YteeinehpneppnaaRows
import Derived.Test.YteeinehpneppnaaQ40
import Derived.Test.YteeinehpneppnaaQ30
import Derived.WalkKit
import Derived.ProofKit
import Derived.OpenShut
import Derived.SizedLaws
import Derived.WideKeyElems2
import Derived.Carry
set_option linter.unusedVariables false
set_option linter.unusedSimpArgs false
namespace Go.Proofs.Yteeinehpneppnaa
open Go.ChangeShapes Go.WideShapes Go.ChangeAt Go.RowKit Go.WideElems

theorem mobMore_own : ownKnob Try.prog.godebug = none := by kernel_rfl
theorem mobMore_laid : laidOutB Try.prog = true := by kernel_rfl
set_option maxRecDepth 100000 in
theorem mobMore_lifted (os : Os) (started : os.Started) (H : Type) (enc : TypeId × Value → H) :
    ReturnsInHanded {} Try.checked os 10 .any (Rows.mobMoreSpec.pre6 enc Try.prog Try.f10 Rows.mobMoreRow.domain false) (Rows.mobMoreSpec.post enc Try.prog Try.f10 false true false false) := by
  refine returnsInHanded_of_change (C := Try.checked) mobMore_own started (by kernel_rfl) Try.func10
    (ChangeSpec.witness6 (enc := enc) (C := Try.checked) false ⟨#[], #[.agg #[.slice none 0 0, .slice none 0 0, .slice none 0 0, .slice none 0 0], .agg #[.int .i64 0, .int .i64 0, .int .i64 0, .int .i64 0], .int .u8 0, .int .u8 0, .int .u8 0], []⟩ 8 (by kernel_rfl) (by kernel_rfl) (by kernel_rfl) (by kernel_rfl)) ?_
  intro W base args ds gs before hval0 hW hcnd _
  have hval : ∀ (j : Nat) t v, Try.f10.params[j]? = some t → args[j]? = some v → Value.okWide Try.prog W .any base t v := hval0
  have hW' := hW
  obtain ⟨p, q, hA0, hV, rfl, hfz, hnd⟩ := hW
  have hA : DataW.TrodAll enc Try.prog W 0 (fun _ => true) true Try.f10.params.toList args.toList ds p := hA0
  rw [Try.params10] at hA hval
  obtain ⟨v0, v1, v2, v3, v4, d0, d1, d2, d3, d4, p0, p1, p2, p3, p4, rfl, rfl, rfl, h0, h1, h2, h3, h4⟩ := trodAll_five hA
  obtain ⟨rfl, rfl⟩ := trodVars_none hV
  clear hA0 hval0
  simp only [List.append_nil] at hW'
  have hlt := hW'.lt
  have r0 := h0
  obtain ⟨m0, A0, e0, hm0, la0, lb0, lc0, ld0⟩ := open_mob (hval 0 27 v0 rfl rfl) h0
  subst e0
  have r1 := h1
  obtain ⟨x1, y1, z1, t1, e1⟩ := open_seen (hval 1 64 v1 rfl rfl) h1
  subst e1
  have r2 := h2
  obtain ⟨n2, e2, _, _, wn2⟩ := open_int Try.underlying5 (hval 2 5 v2 rfl rfl) h2
  subst e2
  have r3 := h3
  obtain ⟨n3, e3, _, _, wn3⟩ := open_int Try.underlying5 (hval 3 5 v3 rfl rfl) h3
  subst e3
  have r4 := h4
  obtain ⟨n4, e4, _, _, wn4⟩ := open_int Try.underlying5 (hval 4 5 v4 rfl rfl) h4
  subst e4
  refine (w_MobMore m0 A0 x1 y1 z1 t1 n2 n3 n4 W hm0 la0 lb0 lc0 ld0 wn2 wn3 wn4).mono fun e W' ⟨he, hb⟩ => ?_
  subst he
  have s0 : DataW.Trod enc Try.prog W' 0 (fun b => decide (b < W.heap.size)) true 27 _ d0 _ := Below.trod mobMore_laid (by kernel_rfl) (of_decide_eq_true (by kernel_rfl)) r0 hb (fun x hx => by simpa using hlt x (by simp [hx]))
  have s1 : DataW.Trod enc Try.prog W' 0 (fun b => decide (b < W.heap.size)) true 64 _ d1 _ := Below.trod mobMore_laid (by kernel_rfl) (of_decide_eq_true (by kernel_rfl)) r1 hb (fun x hx => by simpa using hlt x (by simp [hx]))
  have s2 : DataW.Trod enc Try.prog W' 0 (fun b => decide (b < W.heap.size)) true 5 _ d2 _ := Below.trod mobMore_laid (by kernel_rfl) (of_decide_eq_true (by kernel_rfl)) r2 hb (fun x hx => by simpa using hlt x (by simp [hx]))
  have s3 : DataW.Trod enc Try.prog W' 0 (fun b => decide (b < W.heap.size)) true 5 _ d3 _ := Below.trod mobMore_laid (by kernel_rfl) (of_decide_eq_true (by kernel_rfl)) r3 hb (fun x hx => by simpa using hlt x (by simp [hx]))
  have s4 : DataW.Trod enc Try.prog W' 0 (fun b => decide (b < W.heap.size)) true 5 _ d4 _ := Below.trod mobMore_laid (by kernel_rfl) (of_decide_eq_true (by kernel_rfl)) r4 hb (fun x hx => by simpa using hlt x (by simp [hx]))
  exact ⟨_, rfl, ⟨_, _, _, [], _, [], hW', trodAll_mk1 (shut_bool Try.underlying4 _), trodAll_mk5 s0 s1 s2 s3 s4, rfl, hb.frame _, fun h => by cases h⟩⟩

theorem mobMore_holds : Rows.MobMoreSaid :=
  OpenClaim.holds_of_wide 10 Try.f10 rfl rfl rfl rfl rfl rfl rfl ⟨rfl, rfl, rfl, rfl, rfl⟩ rfl rfl rfl rfl rfl (by kernel_rfl) Try.func10 (by kernel_rfl)
    (of_decide_eq_true (by kernel_rfl)) (by unfold Func.isWrapper; first | (rw [if_pos (by decide +kernel)]; kernel_rfl) | (rw [if_neg (by decide +kernel)]; exact ⟨rfl, rfl⟩))
    (fun os started H enc _ => mobMore_lifted os started H enc)
#print axioms mobMore_holds
end Go.Proofs.Yteeinehpneppnaa
