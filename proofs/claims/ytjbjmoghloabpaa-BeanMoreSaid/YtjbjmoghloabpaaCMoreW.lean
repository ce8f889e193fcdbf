/- BeanMore: what more is known, another order, the other colour; no condition. -/
import Derived.Test.YtjbjmoghloabpaaRows
import Derived.Test.YtjbjmoghloabpaaP35
import Derived.Test.YtjbjmoghloabpaaP36
import Derived.WalkKit
import Derived.ProofKit
import Derived.OpenShut
import Derived.SizedLaws
import Derived.WideKeyElems2
import Derived.Carry
set_option linter.unusedVariables false
set_option linter.unusedSimpArgs false
namespace Go.Proofs.Ytjbjmoghloabpaa
open Go.ChangeShapes Go.WideShapes Go.ChangeAt Go.RowKit Go.WideElems

theorem beanMore_own : ownKnob Try.prog.godebug = none := by kernel_rfl
theorem beanMore_laid : laidOutB Try.prog = true := by kernel_rfl
set_option maxRecDepth 100000 in
theorem beanMore_lifted (os : Os) (started : os.Started) (H : Type) (enc : TypeId × Value → H) :
    ReturnsInHanded {} Try.checked os 11 .any (Rows.beanMoreSpec.pre6 enc Try.prog Try.f11 Rows.beanMoreRow.domain false) (Rows.beanMoreSpec.post enc Try.prog Try.f11 false true false false) := by
  refine returnsInHanded_of_change (C := Try.checked) beanMore_own started (by kernel_rfl) Try.func11
    (ChangeSpec.witness6 (enc := enc) (C := Try.checked) false ⟨#[], #[.agg #[.int .i64 0, .int .i64 0, .int .i64 0, .int .i64 0, .slice none 0 0, .slice none 0 0], .agg #[.int .i64 0, .int .i64 0, .int .i64 0], .agg #[.int .i64 0, .int .i64 0, .bool false], .int .u8 0], []⟩ 8 (by kernel_rfl) (by kernel_rfl) (by kernel_rfl) (by kernel_rfl)) ?_
  intro W base args ds gs before hval0 hW hcnd _
  have hval : ∀ (j : Nat) t v, Try.f11.params[j]? = some t → args[j]? = some v → Value.okWide Try.prog W .any base t v := hval0
  have hW' := hW
  obtain ⟨p, q, hA0, hV, rfl, hfz, hnd⟩ := hW
  have hA : DataW.TrodAll enc Try.prog W 0 (fun _ => true) true Try.f11.params.toList args.toList ds p := hA0
  rw [Try.params11] at hA hval
  obtain ⟨v0, v1, v2, v3, d0, d1, d2, d3, p0, p1, p2, p3, rfl, rfl, rfl, h0, h1, h2, h3⟩ := trodAll_four hA
  obtain ⟨rfl, rfl⟩ := trodVars_none hV
  clear hA0 hval0
  simp only [List.append_nil] at hW'
  have hlt := hW'.lt
  have r0 := h0
  obtain ⟨b0, ga0, gc0, pa0, pc0, e0, hg0, hp0, hgl0, hpl0⟩ := open_bean (hval 0 27 v0 rfl rfl) h0
  subst e0
  have r1 := h1
  obtain ⟨x1, y1, z1, e1⟩ := open_group (hval 1 49 v1 rfl rfl) h1
  subst e1
  have r2 := h2
  obtain ⟨x2, y2, z2, e2⟩ := open_pair (hval 2 54 v2 rfl rfl) h2
  subst e2
  have r3 := h3
  obtain ⟨n3, e3, _, _, wn3⟩ := open_int Try.underlying5 (hval 3 5 v3 rfl rfl) h3
  subst e3
  refine (w_BeanMore b0 ga0 gc0 pa0 pc0 x1 y1 z1 x2 y2 z2 n3 W hg0 hp0 hgl0 hpl0 wn3).mono fun e W' ⟨he, hb⟩ => ?_
  subst he
  have s0 : DataW.Trod enc Try.prog W' 0 (fun b => decide (b < W.heap.size)) true 27 _ d0 _ := Below.trod beanMore_laid (by kernel_rfl) (of_decide_eq_true (by kernel_rfl)) r0 hb (fun x hx => by simpa using hlt x (by simp [hx]))
  have s1 : DataW.Trod enc Try.prog W' 0 (fun b => decide (b < W.heap.size)) true 49 _ d1 _ := Below.trod beanMore_laid (by kernel_rfl) (of_decide_eq_true (by kernel_rfl)) r1 hb (fun x hx => by simpa using hlt x (by simp [hx]))
  have s2 : DataW.Trod enc Try.prog W' 0 (fun b => decide (b < W.heap.size)) true 54 _ d2 _ := Below.trod beanMore_laid (by kernel_rfl) (of_decide_eq_true (by kernel_rfl)) r2 hb (fun x hx => by simpa using hlt x (by simp [hx]))
  have s3 : DataW.Trod enc Try.prog W' 0 (fun b => decide (b < W.heap.size)) true 5 _ d3 _ := Below.trod beanMore_laid (by kernel_rfl) (of_decide_eq_true (by kernel_rfl)) r3 hb (fun x hx => by simpa using hlt x (by simp [hx]))
  exact ⟨_, rfl, ⟨_, _, _, [], _, [], hW', trodAll_mk1 (shut_bool Try.underlying4 _), trodAll_mk4 s0 s1 s2 s3, rfl, hb.frame _, fun h => by cases h⟩⟩

theorem beanMore_holds : Rows.BeanMoreSaid :=
  OpenClaim.holds_of_wide 11 Try.f11 rfl rfl rfl rfl rfl rfl rfl ⟨rfl, rfl, rfl, rfl, rfl⟩ rfl rfl rfl rfl rfl (by kernel_rfl) Try.func11 (by kernel_rfl)
    (of_decide_eq_true (by kernel_rfl)) (by unfold Func.isWrapper; first | (rw [if_pos (by decide +kernel)]; kernel_rfl) | (rw [if_neg (by decide +kernel)]; exact ⟨rfl, rfl⟩))
    (fun os started H enc _ => beanMore_lifted os started H enc)
#print axioms beanMore_holds
end Go.Proofs.Ytjbjmoghloabpaa
