/- Drawn regions in which, behind some reads, two effects are ready at once. -/
import Derived.Test.YteeinehpneppnaaGreatOrdB
set_option linter.unusedVariables false
namespace Go.Ord
section
variable {P : Program} {ops : Array Oper} {H : World → Prop} {Q : Exit → Act → World → Prop} {eff : Nat → Bool}
/-- An exit, of which the plain one is another one. -/
def Qn (Q : Exit → Act → World → Prop) (R : Act → World → Prop) : Exit → Act → World → Prop
  | .normal, a, w => R a w
  | e, a, w => Q e a w
/-- Reads alone. -/
def pre (ops : Array Oper) (eff : Nat → Bool) : List (Nat × Nat) → Array Bool → Option (Array Bool)
  | [], listed => some listed
  | (k, c) :: l, listed =>
    if !eff k && decide (c < 2) && (Region.ready .any ops listed).contains k && Region.free .any ops listed k && (c == 1 || calm ops eff k listed) then pre ops eff l (listed.setIfInBounds k true) else none
theorem any_of_pre {R : Act → World → Prop} {m : Nat} {L : Array Bool} (hs : Region.noSelect ops = true) (hQ : ∀ c a d v w, Q (.panic c) (a.put d v) w → Q (.panic c) a w)
    (hR : ∀ a w, H w → R a w → any P ops eff H Q m L a w) :
    ∀ (l : List (Nat × Nat)) (listed : Array Bool) (a : Act) (w : World), listed.size = ops.size → H w →
    pre ops eff l listed = some L → walk P ops H (Qn Q R) l a w → any P ops eff H Q (l.length + m) listed a w
  | [], listed, a, w, _, hw, hB, h => by
    simp only [pre, Option.some.injEq] at hB
    subst hB
    simp only [List.length_nil, Nat.zero_add]
    exact hR a w hw h
  | (k, c) :: l, listed, a, w, hsz, hw, hB, h => by
    rw [pre] at hB
    split at hB
    · rename_i hb
      simp only [Bool.and_eq_true, Bool.or_eq_true, beq_iff_eq, decide_eq_true_eq, Bool.not_eq_true'] at hb
      obtain ⟨⟨⟨⟨he, hc2⟩, hr⟩, hf⟩, hcc⟩ := hb
      rw [walk] at h
      cases ho : ops[k]? with
      | none => simp only [ho] at h
      | some o =>
        simp only [ho] at h
        have hsz' : (listed.setIfInBounds k true).size = ops.size := by simp [hsz]
        have ih : ∀ a w, H w → walk P ops H (Qn Q R) l a w → any P ops eff H Q (l.length + m) (listed.setIfInBounds k true) a w := fun a w h1 h2 => any_of_pre hs hQ hR l _ a w hsz' h1 hB h2
        have hr' : k ∈ Region.ready .any ops listed := by simpa using hr
        have hlen : ((k, c) :: l).length + m = l.length + m + 1 := by simp; omega
        rw [hlen]
        by_cases hwt : Region.wanted o (yielded ops a.tmps) = true
        · simp only [hwt, if_true] at h
          match c, hc2, h with
          | 0, _, h =>
            obtain ⟨v, h1, h2⟩ := h
            have hcalm : calm ops eff k listed = true := hcc.resolve_left (by simp)
            obtain ⟨L', hL⟩ := calm_spec hsz hcalm
            exact any_calm ho he (Region.noSelect_spec hs) (fun c a w => hQ c a _ _ w) (l.length + m) listed a hL (Region.free_spec ho hf) hr' (.inl ⟨hwt, fun w' e => by subst e; exact h1⟩) (ih _ _ hw h2)
          | 1, _, h =>
            obtain ⟨v, h1, h2⟩ := h
            exact any_first ho he (Region.noSelect_spec hs) (fun c a w => hQ c a _ _ w) (l.length + m) listed a w hw (Region.free_spec ho hf) hr' (.inl ⟨hwt, h1⟩) (ih _ _ hw h2)
          | (n + 2), hc2, _ => exact absurd hc2 (by omega)
        · have hwt' : Region.wanted o (yielded ops a.tmps) = false := by simpa using hwt
          simp only [hwt', Bool.false_eq_true, if_false] at h
          exact any_first ho he (Region.noSelect_spec hs) (fun c a w => hQ c a _ _ w) (l.length + m) listed a w hw (Region.free_spec ho hf) hr' (.inr ⟨hwt', rfl⟩) (ih _ _ hw h)
    · cases hB

/-- One of the effects that are ready, and what is behind it. -/
theorem op_of_walk {l : List (Nat × Nat)} {listed : Array Bool} {k : Nat} {a : Act} {w : World} (hs : Region.noSelect ops = true) (hQ : ∀ c a d v w, Q (.panic c) (a.put d v) w → Q (.panic c) a w)
    (hsz : listed.size = ops.size) (hw : H w) (he : eff k = true) (hB : plan ops eff l (listed.setIfInBounds k true) = true) (h : walk P ops H Q ((k, 2) :: l) a w) :
    op P ops eff H Q k (any P ops eff H Q l.length (listed.setIfInBounds k true)) a w := by
  rw [walk] at h
  cases ho : ops[k]? with
  | none => simp only [ho] at h
  | some o =>
    simp only [ho] at h
    have hsz' : (listed.setIfInBounds k true).size = ops.size := by simp [hsz]
    have ih : ∀ a w, H w → walk P ops H Q l a w → any P ops eff H Q l.length (listed.setIfInBounds k true) a w := fun a w h1 h2 => any_of_walk hs hQ l _ a w hsz' h1 hB h2
    unfold op
    simp only [ho, he, if_true]
    split
    · rename_i hwt
      simp only [hwt, if_true] at h
      exact h.imp (Oper.wp_mono (fun a w hk => ⟨hk.1, ih a w hk.1 hk.2⟩)) id
    · rename_i hwt
      simp only [hwt] at h
      exact ih _ _ hw h

/-- The plan: reads 'l0', then the effects 'k1', 'k2' in either order, then each its own rest. -/
def forkOk (ops : Array Oper) (l0 : List (Nat × Nat)) (k1 : Nat) (l1 : List (Nat × Nat)) (k2 : Nat) (l2 : List (Nat × Nat)) : Bool :=
  let eff := fun i => i == k1 || l1.any fun (k, c) => k == i && c == 2
  Region.noSelect ops && l0.length + l1.length + 1 == ops.size && l1.length == l2.length && eff k2 &&
  match pre ops eff l0 (Array.replicate ops.size false) with
  | none => false
  | some L => decide (L.size = ops.size) && decide (Region.ready .any ops L = [k1, k2]) && plan ops eff l1 (L.setIfInBounds k1 true) && plan ops eff l2 (L.setIfInBounds k2 true)
/-- What is owed at the fork. -/
def Fork (P : Program) (ops : Array Oper) (H : World → Prop) (Q : Exit → Act → World → Prop) (k1 : Nat) (l1 : List (Nat × Nat)) (k2 : Nat) (l2 : List (Nat × Nat)) (a : Act) (w : World) : Prop :=
  walk P ops H Q ((k1, 2) :: l1) a w ∧ walk P ops H Q ((k2, 2) :: l2) a w
theorem wp_fork {id : Nat} {a : Act} {w : World} {lo : List Oper} (l0 : List (Nat × Nat)) (k1 : Nat) (l1 : List (Nat × Nat)) (k2 : Nat) (l2 : List (Nat × Nat)) (H : World → Prop) (hm : P.follows .mixedOrders = true)
    (hp : forkOk lo.toArray l0 k1 l1 k2 l2 = true)
    (hQ : ∀ c a d v w, Q (.panic c) (a.put d v) w → Q (.panic c) a w) (hH : H w.drew)
    (h : walk P lo.toArray H (Qn Q (Fork P lo.toArray H Q k1 l1 k2 l2)) l0 a w.drew) : (Code.region id lo.toArray true).wp P Q a w := by
  simp only [forkOk, Bool.and_eq_true, beq_iff_eq] at hp
  obtain ⟨⟨⟨⟨hs, hl⟩, hl2⟩, he2⟩, hp⟩ := hp
  cases hpre : pre lo.toArray (fun i => i == k1 || l1.any fun (k, c) => k == i && c == 2) l0 (Array.replicate lo.toArray.size false) with
  | none => simp only [hpre] at hp; cases hp
  | some L =>
    simp only [hpre, Bool.and_eq_true, decide_eq_true_eq] at hp
    obtain ⟨⟨⟨hsz, hr⟩, hp1⟩, hp2⟩ := hp
    have he1 : (fun i => i == k1 || l1.any fun (k, c) => k == i && c == 2) k1 = true := by simp
    refine wp_region_any hm (wpAny_of_any (H := H) (eff := fun i => i == k1 || l1.any fun (k, c) => k == i && c == 2) _ _ _ _ ?_)
    have h2 := any_of_pre (m := l1.length + 1) (R := Fork P lo.toArray H Q k1 l1 k2 l2) (L := L) (H := H) (P := P) hs hQ (fun a w hw hf => ?_) l0 (Array.replicate lo.toArray.size false) a w.drew (by simp) hH hpre h
    · have e1 : l0.length + (l1.length + 1) = lo.toArray.size := by omega
      rw [e1] at h2
      exact h2
    · refine ⟨fun h0 => (by rw [h0] at hr; cases hr), fun j hj => ?_⟩
      rw [hr] at hj
      rcases List.mem_cons.1 hj with rfl | hj
      · exact op_of_walk hs hQ hsz hw he1 hp1 hf.1
      · have hj2 : j = k2 := by simpa using hj
        subst hj2
        have := op_of_walk (l := l2) hs hQ hsz hw he2 hp2 hf.2
        rw [← hl2] at this
        exact this
end
section
variable {P : Program} {H : World → Prop} {Q : Exit → Act → World → Prop} {a : Act} {w : World} {lo : List Oper} {k1 k2 : Nat} {l1 l2 : List (Nat × Nat)}
theorem at_fork (h1 : walk P lo.toArray H Q ((k1, 2) :: l1) a w) (h2 : walk P lo.toArray H Q ((k2, 2) :: l2) a w) : walk P lo.toArray H (Qn Q (Fork P lo.toArray H Q k1 l1 k2 l2)) [] a w := ⟨h1, h2⟩
end
end Go.Ord
