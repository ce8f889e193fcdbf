/- Trees of orders for drawn regions, where a panic may look at what the region does not write. -/
import Derived.Test.YteeinehpneppnaaGreatOrdT
set_option linter.unusedVariables false
set_option linter.unusedSimpArgs false
namespace Go.Ord
variable {P : Program} {ops : Array Oper} {Q : Exit → Act → World → Prop} {H : World → Prop} {eff : Nat → Bool}
theorem any_of_partD (F : Nat) {R : Act → World → Prop} {m : Nat} {L : Array Bool} (hs : Region.noSelect ops = true) (hQ : ∀ c a d v w, (∃ o, o ∈ ops ∧ o.dst = d) → Q (.panic c) (a.put d v) w → Q (.panic c) a w)
    (hR : ∀ a w, H w → R a w → any P ops eff H Q m L a w) : ∀ (l : List (Nat × Nat)) (listed : Array Bool) (a : Act) (w : World), listed.size = ops.size → H w →
    planP F ops eff l listed = some L → walk P ops H (Qn Q R) l a w → any P ops eff H Q (l.length + m) listed a w
  | [], listed, a, w, _, hw, hB, h => by
    simp only [planP, Option.some.injEq] at hB
    subst hB
    simp only [List.length_nil, Nat.zero_add]
    exact hR a w hw h
  | (k, c) :: l, listed, a, w, hsz, hw, hB, h => by
    rw [planP] at hB
    split at hB
    · rename_i hb
      unfold okP at hb
      rw [walk] at h
      cases ho : ops[k]? with
      | none => simp only [ho] at h
      | some o =>
        simp only [ho] at h
        have hsz' : (listed.setIfInBounds k true).size = ops.size := by simp [hsz]
        have ih : ∀ a w, H w → walk P ops H (Qn Q R) l a w → any P ops eff H Q (l.length + m) (listed.setIfInBounds k true) a w := fun a w h1 h2 => any_of_partD F hs hQ hR l _ a w hsz' h1 hB h2
        have hlen : ((k, c) :: l).length + m = l.length + m + 1 := by simp; omega
        rw [hlen]
        cases he : eff k with
        | true =>
          simp only [he, if_true, Bool.and_eq_true, beq_iff_eq, decide_eq_true_eq] at hb
          obtain ⟨rfl, hr⟩ := hb
          refine ⟨fun h0 => (by rw [h0] at hr; cases hr), fun j hj => ?_⟩
          rw [hr] at hj
          have hjk : j = k := by simpa using hj
          subst hjk
          unfold op
          simp only [ho, he, if_true]
          split
          · rename_i hwt
            simp only [hwt, if_true] at h
            exact h.imp (fun h => Two.wp_qn (Oper.wp_mono (fun a w hk => ⟨hk.1, ih a w hk.1 hk.2⟩) h)) (fun h => ⟨h.1, letsOut_qn h.2⟩)
          · rename_i hwt
            simp only [hwt] at h
            exact ih _ _ hw h
        | false =>
          simp only [he, Bool.false_eq_true, if_false, Bool.and_eq_true, Bool.or_eq_true, beq_iff_eq, decide_eq_true_eq] at hb
          obtain ⟨hc2, hone | ⟨⟨hr, hf⟩, hcc⟩⟩ := hb
          · refine ⟨fun h0 => (by rw [h0] at hone; cases hone), fun j hj => ?_⟩
            rw [hone] at hj
            have hjk : j = k := by simpa using hj
            subst hjk
            unfold op
            simp only [ho, he, Bool.false_eq_true, if_false]
            split
            · rename_i hwt
              simp only [hwt, if_true] at h
              match c, hc2, h with
              | 0, _, h =>
                obtain ⟨v, h1, h2⟩ := h
                exact ⟨v, h1, ih _ _ hw h2⟩
              | 1, _, h =>
                obtain ⟨v, h1, h2⟩ := h
                exact ⟨v, h1 w hw, ih _ _ hw h2⟩
              | (n + 2), hc2, _ => exact absurd hc2 (by omega)
            · rename_i hwt
              simp only [hwt] at h
              exact ih _ _ hw h
          have hr' : k ∈ Region.ready .any ops listed := by simpa using hr
          by_cases hwt : Region.wanted o (yielded ops a.tmps) = true
          · simp only [hwt, if_true] at h
            match c, hc2, h with
            | 0, _, h =>
              obtain ⟨v, h1, h2⟩ := h
              have hcalm : calmG F ops eff k listed = true := hcc.resolve_left (by simp)
              obtain ⟨L', hL⟩ := calmG_spec hsz hcalm
              exact any_calm ho he (Region.noSelect_spec hs) (fun c a w => hQ c a _ _ w ⟨o, Array.mem_of_getElem? ho, rfl⟩) (l.length + m) listed a hL (Region.free_spec ho hf) hr' (.inl ⟨hwt, fun w' e => by subst e; exact h1⟩) (ih _ _ hw h2)
            | 1, _, h =>
              obtain ⟨v, h1, h2⟩ := h
              exact any_first ho he (Region.noSelect_spec hs) (fun c a w => hQ c a _ _ w ⟨o, Array.mem_of_getElem? ho, rfl⟩) (l.length + m) listed a w hw (Region.free_spec ho hf) hr' (.inl ⟨hwt, h1⟩) (ih _ _ hw h2)
            | (n + 2), hc2, _ => exact absurd hc2 (by omega)
          · have hwt' : Region.wanted o (yielded ops a.tmps) = false := by simpa using hwt
            simp only [hwt', Bool.false_eq_true, if_false] at h
            exact any_first ho he (Region.noSelect_spec hs) (fun c a w => hQ c a _ _ w ⟨o, Array.mem_of_getElem? ho, rfl⟩) (l.length + m) listed a w hw (Region.free_spec ho hf) hr' (.inr ⟨hwt', rfl⟩) (ih _ _ hw h)
    · cases hB
theorem any_of_walkTD (F : Nat) (hs : Region.noSelect ops = true) (hQ : ∀ c a d v w, (∃ o, o ∈ ops ∧ o.dst = d) → Q (.panic c) (a.put d v) w → Q (.panic c) a w) : ∀ (t : Pl) (listed : Array Bool) (a : Act) (w : World), listed.size = ops.size → H w →
    planT F ops eff t listed = true → walkT P ops H Q t a w → any P ops eff H Q t.len listed a w
  | .leaf l, listed, a, w, hsz, hw, hB, h => by
    rw [planT] at hB
    cases hp : planP F ops eff l listed with
    | none => simp only [hp] at hB; cases hB
    | some L =>
      simp only [hp] at hB
      have := any_of_partD (m := 0) F hs hQ (fun a w _ h => ⟨by simpa using hB, h⟩) l listed a w hsz hw hp (walk_qn l h)
      exact this
  | .fork2 l k1 t1 k2 t2, listed, a, w, hsz, hw, hB, h => by
    rw [planT] at hB
    cases hp : planP F ops eff l listed with
    | none => simp only [hp] at hB; cases hB
    | some L =>
      simp only [hp, Bool.and_eq_true, decide_eq_true_eq, beq_iff_eq] at hB
      obtain ⟨hr, he1, he2, hl, h1, h2⟩ := hB
      have hLs : L.size = ops.size := (planP_size l _ _ hp).trans hsz
      refine any_of_partD (m := t1.len + 1) F hs hQ (fun a w hw ho => ?_) l listed a w hsz hw hp h
      obtain ⟨o1, o2⟩ := ho
      refine ⟨fun h0 => (by rw [h0] at hr; cases hr), fun j hj => ?_⟩
      rw [hr] at hj
      simp only [List.mem_cons, List.not_mem_nil, or_false] at hj
      rcases hj with rfl | rfl
      · exact op_of_one hw he1 (fun a w hw ht => any_of_walkTD F hs hQ t1 _ a w (by simp [hLs]) hw h1 ht) o1
      · exact op_of_one hw he2 (fun a w hw ht => hl ▸ any_of_walkTD F hs hQ t2 _ a w (by simp [hLs]) hw h2 ht) o2
  | .fork3 l k1 t1 k2 t2 k3 t3, listed, a, w, hsz, hw, hB, h => by
    rw [planT] at hB
    cases hp : planP F ops eff l listed with
    | none => simp only [hp] at hB; cases hB
    | some L =>
      simp only [hp, Bool.and_eq_true, decide_eq_true_eq, beq_iff_eq] at hB
      obtain ⟨hr, he1, he2, he3, hl2, hl3, h1, h2, h3⟩ := hB
      have hLs : L.size = ops.size := (planP_size l _ _ hp).trans hsz
      refine any_of_partD (m := t1.len + 1) F hs hQ (fun a w hw ho => ?_) l listed a w hsz hw hp h
      obtain ⟨o1, o2, o3⟩ := ho
      refine ⟨fun h0 => (by rw [h0] at hr; cases hr), fun j hj => ?_⟩
      rw [hr] at hj
      simp only [List.mem_cons, List.not_mem_nil, or_false] at hj
      rcases hj with rfl | rfl | rfl
      · exact op_of_one hw he1 (fun a w hw ht => any_of_walkTD F hs hQ t1 _ a w (by simp [hLs]) hw h1 ht) o1
      · exact op_of_one hw he2 (fun a w hw ht => hl2 ▸ any_of_walkTD F hs hQ t2 _ a w (by simp [hLs]) hw h2 ht) o2
      · exact op_of_one hw he3 (fun a w hw ht => hl3 ▸ any_of_walkTD F hs hQ t3 _ a w (by simp [hLs]) hw h3 ht) o3
theorem wp_regionTD {id : Nat} {a : Act} {w : World} {lo : List Oper} (F : Nat) (t : Pl) (H : World → Prop) (hm : P.follows .mixedOrders = true) (hp : planOkT F lo.toArray t = true)
    (hQ : ∀ c a d v w, (∃ o, o ∈ lo.toArray ∧ o.dst = d) → Q (.panic c) (a.put d v) w → Q (.panic c) a w) (hH : H w.drew) (h : walkT P lo.toArray H Q t a w.drew) : (Code.region id lo.toArray true).wp P Q a w := by
  simp only [planOkT, Bool.and_eq_true, beq_iff_eq] at hp
  obtain ⟨⟨hs, hl⟩, hp⟩ := hp
  refine wp_region_any hm (wpAny_of_any (H := H) (eff := fun i => t.effs.contains i) _ _ _ _ ?_)
  have h2 := any_of_walkTD F (H := H) (eff := fun i => t.effs.contains i) hs hQ t (Array.replicate lo.toArray.size false) a _ (by simp) hH hp h
  rw [hl] at h2
  exact h2
end Go.Ord
