/- Parts of a proof: OrdT, OrdU, OrdV. -/
import Derived.Test.YteeinehpneppnaaQ02
set_option linter.unusedVariables false
set_option linter.unusedSimpArgs false
namespace Go.Ord
/-- A tree of orders. -/
inductive Pl where
  | leaf (l : List (Nat × Nat))
  | fork2 (l : List (Nat × Nat)) (k1 : Nat) (t1 : Pl) (k2 : Nat) (t2 : Pl)
  | fork3 (l : List (Nat × Nat)) (k1 : Nat) (t1 : Pl) (k2 : Nat) (t2 : Pl) (k3 : Nat) (t3 : Pl)
namespace Pl
def len : Pl → Nat
  | leaf l => l.length
  | fork2 l _ t1 _ _ => l.length + (t1.len + 1)
  | fork3 l _ t1 _ _ _ _ => l.length + (t1.len + 1)
def effs : Pl → List Nat
  | leaf l => (l.filter (·.2 == 2)).map (·.1)
  | fork2 l k1 t1 _ _ => (l.filter (·.2 == 2)).map (·.1) ++ k1 :: t1.effs
  | fork3 l k1 t1 _ _ _ _ => (l.filter (·.2 == 2)).map (·.1) ++ k1 :: t1.effs
end Pl
variable {P : Program} {ops : Array Oper} {Q : Exit → Act → World → Prop} {H : World → Prop} {eff : Nat → Bool}
def okP (F : Nat) (ops : Array Oper) (eff : Nat → Bool) (k c : Nat) (listed : Array Bool) : Bool :=
  if eff k then c == 2 && decide (Region.ready .any ops listed = [k])
  else decide (c < 2) && (decide (Region.ready .any ops listed = [k]) || ((Region.ready .any ops listed).contains k && Region.free .any ops listed k && (c == 1 || calmG F ops eff k listed)))
def planP (F : Nat) (ops : Array Oper) (eff : Nat → Bool) : List (Nat × Nat) → Array Bool → Option (Array Bool)
  | [], listed => some listed
  | (k, c) :: l, listed => if okP F ops eff k c listed = true then planP F ops eff l (listed.setIfInBounds k true) else none
def planT (F : Nat) (ops : Array Oper) (eff : Nat → Bool) : Pl → Array Bool → Bool
  | .leaf l, listed => match planP F ops eff l listed with
    | some L => (Region.ready .any ops L).isEmpty
    | none => false
  | .fork2 l k1 t1 k2 t2, listed => match planP F ops eff l listed with
    | some L => decide (Region.ready .any ops L = [k1, k2]) && (eff k1 && (eff k2 && (t2.len == t1.len && (planT F ops eff t1 (L.setIfInBounds k1 true) && planT F ops eff t2 (L.setIfInBounds k2 true)))))
    | none => false
  | .fork3 l k1 t1 k2 t2 k3 t3, listed => match planP F ops eff l listed with
    | some L => decide (Region.ready .any ops L = [k1, k2, k3]) && (eff k1 && (eff k2 && (eff k3 && (t2.len == t1.len && (t3.len == t1.len && (planT F ops eff t1 (L.setIfInBounds k1 true) && (planT F ops eff t2 (L.setIfInBounds k2 true) && planT F ops eff t3 (L.setIfInBounds k3 true))))))))
    | none => false
/-- What is owed behind an effect. -/
def Owed (p : Act → World → Prop) : Act → World → Prop := p
def walkT (P : Program) (ops : Array Oper) (H : World → Prop) (Q : Exit → Act → World → Prop) : Pl → Act → World → Prop
  | .leaf l, a, w => walk P ops H Q l a w
  | .fork2 l k1 t1 k2 t2, a, w => walk P ops H (Qn Q (Owed fun a w => walk P ops H (Qn Q (walkT P ops H Q t1)) [(k1, 2)] a w ∧ walk P ops H (Qn Q (walkT P ops H Q t2)) [(k2, 2)] a w)) l a w
  | .fork3 l k1 t1 k2 t2 k3 t3, a, w => walk P ops H (Qn Q (Owed fun a w => walk P ops H (Qn Q (walkT P ops H Q t1)) [(k1, 2)] a w ∧ walk P ops H (Qn Q (walkT P ops H Q t2)) [(k2, 2)] a w ∧ walk P ops H (Qn Q (walkT P ops H Q t3)) [(k3, 2)] a w)) l a w
theorem letsOut_qn {R : Act → World → Prop} (h : LetsOut (Qn Q R)) : LetsOut Q := h
theorem planP_size {F : Nat} : ∀ (l : List (Nat × Nat)) (listed L : Array Bool), planP F ops eff l listed = some L → L.size = listed.size
  | [], listed, L, h => by simp only [planP, Option.some.injEq] at h; subst h; rfl
  | (k, c) :: l, listed, L, h => by
    rw [planP] at h
    split at h
    · have := planP_size l _ _ h; simpa using this
    · cases h
theorem any_of_part (F : Nat) {R : Act → World → Prop} {m : Nat} {L : Array Bool} (hs : Region.noSelect ops = true) (hQ : ∀ c a d v w, Q (.panic c) (a.put d v) w → Q (.panic c) a w)
    (hR : ∀ a w, H w → R a w → any P ops eff H Q m L a w) : ∀ (l : List (Nat × Nat)) (listed : Array Bool) (a : Act) (w : World), listed.size = ops.size → H w →
    planP F ops eff l listed = some L → walk P ops H (Qn Q R) l a w → any P ops eff H Q (l.length + m) listed a w
  | [], listed, a, w, _, hw, hB, h => by
    simp only [planP, Option.some.injEq] at hB
    subst hB
    simp only [List.length_nil, Nat.zero_add]
    exact hR a w hw h
  | (k, c) :: l, listed, a, w, hsz, hw, hB, h => by
    rw [planP] at hB
    split at hB
    · rename_i hb
      unfold okP at hb
      rw [walk] at h
      cases ho : ops[k]? with
      | none => simp only [ho] at h
      | some o =>
        simp only [ho] at h
        have hsz' : (listed.setIfInBounds k true).size = ops.size := by simp [hsz]
        have ih : ∀ a w, H w → walk P ops H (Qn Q R) l a w → any P ops eff H Q (l.length + m) (listed.setIfInBounds k true) a w := fun a w h1 h2 => any_of_part F hs hQ hR l _ a w hsz' h1 hB h2
        have hlen : ((k, c) :: l).length + m = l.length + m + 1 := by simp; omega
        rw [hlen]
        cases he : eff k with
        | true =>
          simp only [he, if_true, Bool.and_eq_true, beq_iff_eq, decide_eq_true_eq] at hb
          obtain ⟨rfl, hr⟩ := hb
          refine ⟨fun h0 => (by rw [h0] at hr; cases hr), fun j hj => ?_⟩
          rw [hr] at hj
          have hjk : j = k := by simpa using hj
          subst hjk
          unfold op
          simp only [ho, he, if_true]
          split
          · rename_i hwt
            simp only [hwt, if_true] at h
            exact h.imp (fun h => Two.wp_qn (Oper.wp_mono (fun a w hk => ⟨hk.1, ih a w hk.1 hk.2⟩) h)) (fun h => ⟨h.1, letsOut_qn h.2⟩)
          · rename_i hwt
            simp only [hwt] at h
            exact ih _ _ hw h
        | false =>
          simp only [he, Bool.false_eq_true, if_false, Bool.and_eq_true, Bool.or_eq_true, beq_iff_eq, decide_eq_true_eq] at hb
          obtain ⟨hc2, hone | ⟨⟨hr, hf⟩, hcc⟩⟩ := hb
          · refine ⟨fun h0 => (by rw [h0] at hone; cases hone), fun j hj => ?_⟩
            rw [hone] at hj
            have hjk : j = k := by simpa using hj
            subst hjk
            unfold op
            simp only [ho, he, Bool.false_eq_true, if_false]
            split
            · rename_i hwt
              simp only [hwt, if_true] at h
              match c, hc2, h with
              | 0, _, h =>
                obtain ⟨v, h1, h2⟩ := h
                exact ⟨v, h1, ih _ _ hw h2⟩
              | 1, _, h =>
                obtain ⟨v, h1, h2⟩ := h
                exact ⟨v, h1 w hw, ih _ _ hw h2⟩
              | (n + 2), hc2, _ => exact absurd hc2 (by omega)
            · rename_i hwt
              simp only [hwt] at h
              exact ih _ _ hw h
          have hr' : k ∈ Region.ready .any ops listed := by simpa using hr
          by_cases hwt : Region.wanted o (yielded ops a.tmps) = true
          · simp only [hwt, if_true] at h
            match c, hc2, h with
            | 0, _, h =>
              obtain ⟨v, h1, h2⟩ := h
              have hcalm : calmG F ops eff k listed = true := hcc.resolve_left (by simp)
              obtain ⟨L', hL⟩ := calmG_spec hsz hcalm
              exact any_calm ho he (Region.noSelect_spec hs) (fun c a w => hQ c a _ _ w) (l.length + m) listed a hL (Region.free_spec ho hf) hr' (.inl ⟨hwt, fun w' e => by subst e; exact h1⟩) (ih _ _ hw h2)
            | 1, _, h =>
              obtain ⟨v, h1, h2⟩ := h
              exact any_first ho he (Region.noSelect_spec hs) (fun c a w => hQ c a _ _ w) (l.length + m) listed a w hw (Region.free_spec ho hf) hr' (.inl ⟨hwt, h1⟩) (ih _ _ hw h2)
            | (n + 2), hc2, _ => exact absurd hc2 (by omega)
          · have hwt' : Region.wanted o (yielded ops a.tmps) = false := by simpa using hwt
            simp only [hwt', Bool.false_eq_true, if_false] at h
            exact any_first ho he (Region.noSelect_spec hs) (fun c a w => hQ c a _ _ w) (l.length + m) listed a w hw (Region.free_spec ho hf) hr' (.inr ⟨hwt', rfl⟩) (ih _ _ hw h)
    · cases hB
/-- One of the effects that are ready. -/
theorem op_of_one {R : Act → World → Prop} {n k : Nat} {listed : Array Bool} {a : Act} {w : World} (hw : H w) (he : eff k = true) (hR : ∀ a w, H w → R a w → any P ops eff H Q n (listed.setIfInBounds k true) a w)
    (h : walk P ops H (Qn Q R) [(k, 2)] a w) : op P ops eff H Q k (any P ops eff H Q n (listed.setIfInBounds k true)) a w := by
  rw [walk] at h
  cases ho : ops[k]? with
  | none => simp only [ho] at h
  | some o =>
    simp only [ho] at h
    unfold op
    simp only [ho, he, if_true]
    split
    · rename_i hwt
      simp only [hwt, if_true] at h
      exact h.imp (fun h => Two.wp_qn (Oper.wp_mono (fun a w hk => ⟨hk.1, hR a w hk.1 hk.2⟩) h)) (fun h => ⟨h.1, letsOut_qn h.2⟩)
    · rename_i hwt
      simp only [hwt] at h
      exact hR _ _ hw h
theorem walk_qn : ∀ (l : List (Nat × Nat)) {a : Act} {w : World}, walk P ops H Q l a w → walk P ops H (Qn Q (fun a w => Q .normal a w)) l a w := by
  intro l a w h
  have : Qn Q (fun a w => Q .normal a w) = Q := by funext e a w; cases e <;> rfl
  rw [this]; exact h
theorem any_of_walkT (F : Nat) (hs : Region.noSelect ops = true) (hQ : ∀ c a d v w, Q (.panic c) (a.put d v) w → Q (.panic c) a w) : ∀ (t : Pl) (listed : Array Bool) (a : Act) (w : World), listed.size = ops.size → H w →
    planT F ops eff t listed = true → walkT P ops H Q t a w → any P ops eff H Q t.len listed a w
  | .leaf l, listed, a, w, hsz, hw, hB, h => by
    rw [planT] at hB
    cases hp : planP F ops eff l listed with
    | none => simp only [hp] at hB; cases hB
    | some L =>
      simp only [hp] at hB
      have := any_of_part (m := 0) F hs hQ (fun a w _ h => ⟨by simpa using hB, h⟩) l listed a w hsz hw hp (walk_qn l h)
      exact this
  | .fork2 l k1 t1 k2 t2, listed, a, w, hsz, hw, hB, h => by
    rw [planT] at hB
    cases hp : planP F ops eff l listed with
    | none => simp only [hp] at hB; cases hB
    | some L =>
      simp only [hp, Bool.and_eq_true, decide_eq_true_eq, beq_iff_eq] at hB
      obtain ⟨hr, he1, he2, hl, h1, h2⟩ := hB
      have hLs : L.size = ops.size := (planP_size l _ _ hp).trans hsz
      refine any_of_part (m := t1.len + 1) F hs hQ (fun a w hw ho => ?_) l listed a w hsz hw hp h
      obtain ⟨o1, o2⟩ := ho
      refine ⟨fun h0 => (by rw [h0] at hr; cases hr), fun j hj => ?_⟩
      rw [hr] at hj
      simp only [List.mem_cons, List.not_mem_nil, or_false] at hj
      rcases hj with rfl | rfl
      · exact op_of_one hw he1 (fun a w hw ht => any_of_walkT F hs hQ t1 _ a w (by simp [hLs]) hw h1 ht) o1
      · exact op_of_one hw he2 (fun a w hw ht => hl ▸ any_of_walkT F hs hQ t2 _ a w (by simp [hLs]) hw h2 ht) o2
  | .fork3 l k1 t1 k2 t2 k3 t3, listed, a, w, hsz, hw, hB, h => by
    rw [planT] at hB
    cases hp : planP F ops eff l listed with
    | none => simp only [hp] at hB; cases hB
    | some L =>
      simp only [hp, Bool.and_eq_true, decide_eq_true_eq, beq_iff_eq] at hB
      obtain ⟨hr, he1, he2, he3, hl2, hl3, h1, h2, h3⟩ := hB
      have hLs : L.size = ops.size := (planP_size l _ _ hp).trans hsz
      refine any_of_part (m := t1.len + 1) F hs hQ (fun a w hw ho => ?_) l listed a w hsz hw hp h
      obtain ⟨o1, o2, o3⟩ := ho
      refine ⟨fun h0 => (by rw [h0] at hr; cases hr), fun j hj => ?_⟩
      rw [hr] at hj
      simp only [List.mem_cons, List.not_mem_nil, or_false] at hj
      rcases hj with rfl | rfl | rfl
      · exact op_of_one hw he1 (fun a w hw ht => any_of_walkT F hs hQ t1 _ a w (by simp [hLs]) hw h1 ht) o1
      · exact op_of_one hw he2 (fun a w hw ht => hl2 ▸ any_of_walkT F hs hQ t2 _ a w (by simp [hLs]) hw h2 ht) o2
      · exact op_of_one hw he3 (fun a w hw ht => hl3 ▸ any_of_walkT F hs hQ t3 _ a w (by simp [hLs]) hw h3 ht) o3
def planOkT (F : Nat) (ops : Array Oper) (t : Pl) : Bool := Region.noSelect ops && t.len == ops.size && planT F ops (fun i => t.effs.contains i) t (Array.replicate ops.size false)
theorem wp_regionT {id : Nat} {a : Act} {w : World} {lo : List Oper} (F : Nat) (t : Pl) (H : World → Prop) (hm : P.follows .mixedOrders = true) (hp : planOkT F lo.toArray t = true)
    (hQ : ∀ c a d v w, Q (.panic c) (a.put d v) w → Q (.panic c) a w) (hH : H w.drew) (h : walkT P lo.toArray H Q t a w.drew) : (Code.region id lo.toArray true).wp P Q a w := by
  simp only [planOkT, Bool.and_eq_true, beq_iff_eq] at hp
  obtain ⟨⟨hs, hl⟩, hp⟩ := hp
  refine wp_region_any hm (wpAny_of_any (H := H) (eff := fun i => t.effs.contains i) _ _ _ _ ?_)
  have h2 := any_of_walkT F (H := H) (eff := fun i => t.effs.contains i) hs hQ t (Array.replicate lo.toArray.size false) a _ (by simp) hH hp h
  rw [hl] at h2
  exact h2
theorem wpIn_regionT {l n : Nat} {id : Nat} {a : Act} {w : World} {lo : List Oper} (hO : ¬ LetsOut Q) (F : Nat) (t : Pl) (H : World → Prop) (hm : P.follows .mixedOrders = true) (hp : planOkT F lo.toArray t = true) (hd : lo.all noDefer = true)
    (hQ : ∀ c a d v w, Q (.panic c) (a.put d v) w → Q (.panic c) a w) (hH : H w.drew) (h : walkT P lo.toArray H Q t a w.drew) : (Code.region id lo.toArray true).wpIn (Fence.wide.inRound l) n P Q a w := by
  simp only [planOkT, Bool.and_eq_true, beq_iff_eq] at hp
  obtain ⟨⟨hs, hl⟩, hp⟩ := hp
  refine wpIn_region_any hm (wpAnyIn_of hO (fun i o ho => List.all_eq_true.1 hd o (List.mem_of_getElem? (by simpa using ho))) _ _ _ _ (wpAny_of_any (H := H) (eff := fun i => t.effs.contains i) _ _ _ _ ?_))
  have h2 := any_of_walkT F (H := H) (eff := fun i => t.effs.contains i) hs hQ t (Array.replicate lo.toArray.size false) a _ (by simp) hH hp h
  rw [hl] at h2
  exact h2
/-- Two effects are ready. -/
theorem at_two {lo : List Oper} {a : Act} {w : World} {k1 k2 : Nat} {t1 t2 : Pl} (h1 : walk P lo.toArray H (Qn Q (walkT P lo.toArray H Q t1)) [(k1, 2)] a w) (h2 : walk P lo.toArray H (Qn Q (walkT P lo.toArray H Q t2)) [(k2, 2)] a w) :
    walk P lo.toArray H (Qn Q (Owed fun a w => walk P lo.toArray H (Qn Q (walkT P lo.toArray H Q t1)) [(k1, 2)] a w ∧ walk P lo.toArray H (Qn Q (walkT P lo.toArray H Q t2)) [(k2, 2)] a w)) [] a w := ⟨h1, h2⟩
theorem at_three {lo : List Oper} {a : Act} {w : World} {k1 k2 k3 : Nat} {t1 t2 t3 : Pl} (h1 : walk P lo.toArray H (Qn Q (walkT P lo.toArray H Q t1)) [(k1, 2)] a w) (h2 : walk P lo.toArray H (Qn Q (walkT P lo.toArray H Q t2)) [(k2, 2)] a w) (h3 : walk P lo.toArray H (Qn Q (walkT P lo.toArray H Q t3)) [(k3, 2)] a w) :
    walk P lo.toArray H (Qn Q (Owed fun a w => walk P lo.toArray H (Qn Q (walkT P lo.toArray H Q t1)) [(k1, 2)] a w ∧ walk P lo.toArray H (Qn Q (walkT P lo.toArray H Q t2)) [(k2, 2)] a w ∧ walk P lo.toArray H (Qn Q (walkT P lo.toArray H Q t3)) [(k3, 2)] a w)) [] a w := ⟨h1, h2, h3⟩
theorem tree_leaf {lo : List Oper} {a : Act} {w : World} {l : List (Nat × Nat)} (h : walk P lo.toArray H Q l a w) : walk P lo.toArray H (Qn Q (walkT P lo.toArray H Q (.leaf l))) [] a w := h
theorem tree_two {lo : List Oper} {a : Act} {w : World} {l : List (Nat × Nat)} {k1 k2 : Nat} {t1 t2 : Pl} (h : walk P lo.toArray H (Qn Q (Owed fun a w => walk P lo.toArray H (Qn Q (walkT P lo.toArray H Q t1)) [(k1, 2)] a w ∧ walk P lo.toArray H (Qn Q (walkT P lo.toArray H Q t2)) [(k2, 2)] a w)) l a w) : walk P lo.toArray H (Qn Q (walkT P lo.toArray H Q (.fork2 l k1 t1 k2 t2))) [] a w := h
theorem top_two {lo : List Oper} {a : Act} {w : World} {l : List (Nat × Nat)} {k1 k2 : Nat} {t1 t2 : Pl} (h : walk P lo.toArray H (Qn Q (Owed fun a w => walk P lo.toArray H (Qn Q (walkT P lo.toArray H Q t1)) [(k1, 2)] a w ∧ walk P lo.toArray H (Qn Q (walkT P lo.toArray H Q t2)) [(k2, 2)] a w)) l a w) : walkT P lo.toArray H Q (.fork2 l k1 t1 k2 t2) a w := h
theorem top_three {lo : List Oper} {a : Act} {w : World} {l : List (Nat × Nat)} {k1 k2 k3 : Nat} {t1 t2 t3 : Pl} (h : walk P lo.toArray H (Qn Q (Owed fun a w => walk P lo.toArray H (Qn Q (walkT P lo.toArray H Q t1)) [(k1, 2)] a w ∧ walk P lo.toArray H (Qn Q (walkT P lo.toArray H Q t2)) [(k2, 2)] a w ∧ walk P lo.toArray H (Qn Q (walkT P lo.toArray H Q t3)) [(k3, 2)] a w)) l a w) : walkT P lo.toArray H Q (.fork3 l k1 t1 k2 t2 k3 t3) a w := h
end Go.Ord
namespace Go.Ord.Two
variable {P : Program} {Q : Exit → Act → World → Prop}
theorem wpIn_region {l n : Nat} {id : Nat} {a : Act} {w : World} {lo : List Oper} (hO : ¬ LetsOut Q) (l1 l2 : List (Nat × Nat)) (H : World → Prop) (hm : P.follows .mixedOrders = true) (hp : planOk lo.toArray l1 l2 = true) (hd : lo.all noDefer = true)
    (hQ : ∀ c a d v w, Q (.panic c) (a.put d v) w → Q (.panic c) a w) (hH : H w.drew) (h : walk P lo.toArray H (Qn Q (walk P lo.toArray (fun _ => True) Q l2)) l1 a w.drew) : (Code.region id lo.toArray true).wpIn (Fence.wide.inRound l) n P Q a w := by
  simp only [planOk, Bool.and_eq_true, beq_iff_eq] at hp
  obtain ⟨⟨hs, hl⟩, hp⟩ := hp
  split at hp
  · cases hp
  · rename_i L hL
    refine wpIn_region_any hm (wpAnyIn_of hO (fun i o ho => List.all_eq_true.1 hd o (List.mem_of_getElem? (by simpa using ho))) _ _ _ _ (wpAny_of_any (H := H) (eff := isEff (l1 ++ l2)) (hold := isEff l1) _ _ _ _ ?_))
    have hsz : L.size = lo.toArray.size := by
      have : ∀ (l : List (Nat × Nat)) (x y : Array Bool), plan1 lo.toArray (isEff (l1 ++ l2)) (isEff l1) l x = some y → y.size = x.size := by
        intro l
        induction l with
        | nil => intro x y h; simp only [plan1, Option.some.injEq] at h; rw [h]
        | cons p l ih =>
          intro x y h
          rw [plan1] at h
          split at h
          · rw [ih _ _ h]; simp
          · cases h
      rw [this _ _ _ hL]; simp
    have h2 := any_of_walk1 (H := H) (eff := isEff (l1 ++ l2)) (hold := isEff l1) hs hQ (m := l2.length) (fun a w hR => any_of_walk2 hs hQ l2 L a w hsz hp hR) l1 (Array.replicate lo.toArray.size false) a _ (by simp) hH hL h
    rw [hl] at h2
    exact h2
end Go.Ord.Two
set_option linter.unusedVariables false
set_option linter.unusedSimpArgs false
namespace Go.Ord
variable {P : Program} {ops : Array Oper} {Q : Exit → Act → World → Prop} {H : World → Prop} {eff : Nat → Bool}
theorem any_of_partD (F : Nat) {R : Act → World → Prop} {m : Nat} {L : Array Bool} (hs : Region.noSelect ops = true) (hQ : ∀ c a d v w, (∃ o, o ∈ ops ∧ o.dst = d) → Q (.panic c) (a.put d v) w → Q (.panic c) a w)
    (hR : ∀ a w, H w → R a w → any P ops eff H Q m L a w) : ∀ (l : List (Nat × Nat)) (listed : Array Bool) (a : Act) (w : World), listed.size = ops.size → H w →
    planP F ops eff l listed = some L → walk P ops H (Qn Q R) l a w → any P ops eff H Q (l.length + m) listed a w
  | [], listed, a, w, _, hw, hB, h => by
    simp only [planP, Option.some.injEq] at hB
    subst hB
    simp only [List.length_nil, Nat.zero_add]
    exact hR a w hw h
  | (k, c) :: l, listed, a, w, hsz, hw, hB, h => by
    rw [planP] at hB
    split at hB
    · rename_i hb
      unfold okP at hb
      rw [walk] at h
      cases ho : ops[k]? with
      | none => simp only [ho] at h
      | some o =>
        simp only [ho] at h
        have hsz' : (listed.setIfInBounds k true).size = ops.size := by simp [hsz]
        have ih : ∀ a w, H w → walk P ops H (Qn Q R) l a w → any P ops eff H Q (l.length + m) (listed.setIfInBounds k true) a w := fun a w h1 h2 => any_of_partD F hs hQ hR l _ a w hsz' h1 hB h2
        have hlen : ((k, c) :: l).length + m = l.length + m + 1 := by simp; omega
        rw [hlen]
        cases he : eff k with
        | true =>
          simp only [he, if_true, Bool.and_eq_true, beq_iff_eq, decide_eq_true_eq] at hb
          obtain ⟨rfl, hr⟩ := hb
          refine ⟨fun h0 => (by rw [h0] at hr; cases hr), fun j hj => ?_⟩
          rw [hr] at hj
          have hjk : j = k := by simpa using hj
          subst hjk
          unfold op
          simp only [ho, he, if_true]
          split
          · rename_i hwt
            simp only [hwt, if_true] at h
            exact h.imp (fun h => Two.wp_qn (Oper.wp_mono (fun a w hk => ⟨hk.1, ih a w hk.1 hk.2⟩) h)) (fun h => ⟨h.1, letsOut_qn h.2⟩)
          · rename_i hwt
            simp only [hwt] at h
            exact ih _ _ hw h
        | false =>
          simp only [he, Bool.false_eq_true, if_false, Bool.and_eq_true, Bool.or_eq_true, beq_iff_eq, decide_eq_true_eq] at hb
          obtain ⟨hc2, hone | ⟨⟨hr, hf⟩, hcc⟩⟩ := hb
          · refine ⟨fun h0 => (by rw [h0] at hone; cases hone), fun j hj => ?_⟩
            rw [hone] at hj
            have hjk : j = k := by simpa using hj
            subst hjk
            unfold op
            simp only [ho, he, Bool.false_eq_true, if_false]
            split
            · rename_i hwt
              simp only [hwt, if_true] at h
              match c, hc2, h with
              | 0, _, h =>
                obtain ⟨v, h1, h2⟩ := h
                exact ⟨v, h1, ih _ _ hw h2⟩
              | 1, _, h =>
                obtain ⟨v, h1, h2⟩ := h
                exact ⟨v, h1 w hw, ih _ _ hw h2⟩
              | (n + 2), hc2, _ => exact absurd hc2 (by omega)
            · rename_i hwt
              simp only [hwt] at h
              exact ih _ _ hw h
          have hr' : k ∈ Region.ready .any ops listed := by simpa using hr
          by_cases hwt : Region.wanted o (yielded ops a.tmps) = true
          · simp only [hwt, if_true] at h
            match c, hc2, h with
            | 0, _, h =>
              obtain ⟨v, h1, h2⟩ := h
              have hcalm : calmG F ops eff k listed = true := hcc.resolve_left (by simp)
              obtain ⟨L', hL⟩ := calmG_spec hsz hcalm
              exact any_calm ho he (Region.noSelect_spec hs) (fun c a w => hQ c a _ _ w ⟨o, Array.mem_of_getElem? ho, rfl⟩) (l.length + m) listed a hL (Region.free_spec ho hf) hr' (.inl ⟨hwt, fun w' e => by subst e; exact h1⟩) (ih _ _ hw h2)
            | 1, _, h =>
              obtain ⟨v, h1, h2⟩ := h
              exact any_first ho he (Region.noSelect_spec hs) (fun c a w => hQ c a _ _ w ⟨o, Array.mem_of_getElem? ho, rfl⟩) (l.length + m) listed a w hw (Region.free_spec ho hf) hr' (.inl ⟨hwt, h1⟩) (ih _ _ hw h2)
            | (n + 2), hc2, _ => exact absurd hc2 (by omega)
          · have hwt' : Region.wanted o (yielded ops a.tmps) = false := by simpa using hwt
            simp only [hwt', Bool.false_eq_true, if_false] at h
            exact any_first ho he (Region.noSelect_spec hs) (fun c a w => hQ c a _ _ w ⟨o, Array.mem_of_getElem? ho, rfl⟩) (l.length + m) listed a w hw (Region.free_spec ho hf) hr' (.inr ⟨hwt', rfl⟩) (ih _ _ hw h)
    · cases hB
theorem any_of_walkTD (F : Nat) (hs : Region.noSelect ops = true) (hQ : ∀ c a d v w, (∃ o, o ∈ ops ∧ o.dst = d) → Q (.panic c) (a.put d v) w → Q (.panic c) a w) : ∀ (t : Pl) (listed : Array Bool) (a : Act) (w : World), listed.size = ops.size → H w →
    planT F ops eff t listed = true → walkT P ops H Q t a w → any P ops eff H Q t.len listed a w
  | .leaf l, listed, a, w, hsz, hw, hB, h => by
    rw [planT] at hB
    cases hp : planP F ops eff l listed with
    | none => simp only [hp] at hB; cases hB
    | some L =>
      simp only [hp] at hB
      have := any_of_partD (m := 0) F hs hQ (fun a w _ h => ⟨by simpa using hB, h⟩) l listed a w hsz hw hp (walk_qn l h)
      exact this
  | .fork2 l k1 t1 k2 t2, listed, a, w, hsz, hw, hB, h => by
    rw [planT] at hB
    cases hp : planP F ops eff l listed with
    | none => simp only [hp] at hB; cases hB
    | some L =>
      simp only [hp, Bool.and_eq_true, decide_eq_true_eq, beq_iff_eq] at hB
      obtain ⟨hr, he1, he2, hl, h1, h2⟩ := hB
      have hLs : L.size = ops.size := (planP_size l _ _ hp).trans hsz
      refine any_of_partD (m := t1.len + 1) F hs hQ (fun a w hw ho => ?_) l listed a w hsz hw hp h
      obtain ⟨o1, o2⟩ := ho
      refine ⟨fun h0 => (by rw [h0] at hr; cases hr), fun j hj => ?_⟩
      rw [hr] at hj
      simp only [List.mem_cons, List.not_mem_nil, or_false] at hj
      rcases hj with rfl | rfl
      · exact op_of_one hw he1 (fun a w hw ht => any_of_walkTD F hs hQ t1 _ a w (by simp [hLs]) hw h1 ht) o1
      · exact op_of_one hw he2 (fun a w hw ht => hl ▸ any_of_walkTD F hs hQ t2 _ a w (by simp [hLs]) hw h2 ht) o2
  | .fork3 l k1 t1 k2 t2 k3 t3, listed, a, w, hsz, hw, hB, h => by
    rw [planT] at hB
    cases hp : planP F ops eff l listed with
    | none => simp only [hp] at hB; cases hB
    | some L =>
      simp only [hp, Bool.and_eq_true, decide_eq_true_eq, beq_iff_eq] at hB
      obtain ⟨hr, he1, he2, he3, hl2, hl3, h1, h2, h3⟩ := hB
      have hLs : L.size = ops.size := (planP_size l _ _ hp).trans hsz
      refine any_of_partD (m := t1.len + 1) F hs hQ (fun a w hw ho => ?_) l listed a w hsz hw hp h
      obtain ⟨o1, o2, o3⟩ := ho
      refine ⟨fun h0 => (by rw [h0] at hr; cases hr), fun j hj => ?_⟩
      rw [hr] at hj
      simp only [List.mem_cons, List.not_mem_nil, or_false] at hj
      rcases hj with rfl | rfl | rfl
      · exact op_of_one hw he1 (fun a w hw ht => any_of_walkTD F hs hQ t1 _ a w (by simp [hLs]) hw h1 ht) o1
      · exact op_of_one hw he2 (fun a w hw ht => hl2 ▸ any_of_walkTD F hs hQ t2 _ a w (by simp [hLs]) hw h2 ht) o2
      · exact op_of_one hw he3 (fun a w hw ht => hl3 ▸ any_of_walkTD F hs hQ t3 _ a w (by simp [hLs]) hw h3 ht) o3
theorem wp_regionTD {id : Nat} {a : Act} {w : World} {lo : List Oper} (F : Nat) (t : Pl) (H : World → Prop) (hm : P.follows .mixedOrders = true) (hp : planOkT F lo.toArray t = true)
    (hQ : ∀ c a d v w, (∃ o, o ∈ lo.toArray ∧ o.dst = d) → Q (.panic c) (a.put d v) w → Q (.panic c) a w) (hH : H w.drew) (h : walkT P lo.toArray H Q t a w.drew) : (Code.region id lo.toArray true).wp P Q a w := by
  simp only [planOkT, Bool.and_eq_true, beq_iff_eq] at hp
  obtain ⟨⟨hs, hl⟩, hp⟩ := hp
  refine wp_region_any hm (wpAny_of_any (H := H) (eff := fun i => t.effs.contains i) _ _ _ _ ?_)
  have h2 := any_of_walkTD F (H := H) (eff := fun i => t.effs.contains i) hs hQ t (Array.replicate lo.toArray.size false) a _ (by simp) hH hp h
  rw [hl] at h2
  exact h2
end Go.Ord
set_option linter.unusedVariables false
set_option linter.unusedSimpArgs false
namespace Go.Ord
variable {P : Program} {ops : Array Oper} {Q : Exit → Act → World → Prop}
/-- One more operation has come up. -/
def upd (ls : Nat → Bool) (i : Nat) : Nat → Bool := fun j => j == i || ls j
def unl (n : Nat) (listed : Array Bool) : Nat := ((List.range n).filter fun i => !listed.getD i false).length
theorem upd_set {listed : Array Bool} {i : Nat} (hi : i < listed.size) : (fun j => (listed.setIfInBounds i true).getD j false) = upd (fun j => listed.getD j false) i := by
  funext j
  unfold upd
  by_cases h : j = i
  · subst h; simp [hi]
  · rw [getD_set_ne false (Ne.symm h)]; simp [h]
theorem unl_set {n : Nat} {listed : Array Bool} {i : Nat} (hn : i < n) (hi : i < listed.size) (h : listed.getD i false = false) : unl n (listed.setIfInBounds i true) + 1 ≤ unl n listed := by
  unfold unl
  have key : ∀ l : List Nat, l.Nodup → i ∈ l → (l.filter fun j => !(listed.setIfInBounds i true).getD j false).length + 1 ≤ (l.filter fun j => !listed.getD j false).length := by
    intro l
    induction l with
    | nil => intro _ h; cases h
    | cons x l ih =>
      intro hnd hm
      have hx := List.nodup_cons.1 hnd
      by_cases hxi : x = i
      · subst hxi
        have e1 : (listed.setIfInBounds x true).getD x false = true := by simp [hi]
        have e2 : (l.filter fun j => !(listed.setIfInBounds x true).getD j false) = (l.filter fun j => !listed.getD j false) := by
          apply List.filter_congr
          intro j hj
          rw [getD_set_ne false (show x ≠ j from fun e => hx.1 (e ▸ hj))]
        rw [List.filter_cons, List.filter_cons, e1, h, e2]
        simp
      · have hm2 : i ∈ l := by
          rcases List.mem_cons.1 hm with h | h
          · exact absurd h.symm hxi
          · exact h
        have ih2 := ih hx.2 hm2
        have e1 : (listed.setIfInBounds i true).getD x false = listed.getD x false := getD_set_ne false (Ne.symm hxi)
        rw [List.filter_cons, List.filter_cons, e1]
        split
        · simp only [List.length_cons]; omega
        · exact ih2
  exact key _ List.nodup_range (List.mem_range.2 hn)
theorem wpOp_mono' {i : Nat} {K K' : Act → World → Prop} {a : Act} {w : World} (h : ∀ a w, K a w → K' a w) (hh : wpOp P ops Q i K a w) : wpOp P ops Q i K' a w := by
  unfold wpOp at *
  cases ho : ops[i]? with
  | none => simp only [ho] at hh ⊢; exact h _ _ hh
  | some o =>
    simp only [ho] at hh ⊢
    split
    · rename_i hw
      simp only [hw, if_true] at hh
      exact hh.imp (Oper.wp_mono h) id
    · rename_i hw
      simp only [hw] at hh
      exact h _ _ hh
theorem any_inv {Inv : (Nat → Bool) → Act → World → Prop} (topo : ∀ (i : Nat) (o : Oper), ops[i]? = some o → ∀ e ∈ o.after, e.on < i)
    (hstep : ∀ (i : Nat) (o : Oper) ls a w, ops[i]? = some o → ls i = false → (∀ e ∈ o.after, Region.binds .any e = true → ls e.on = true) → Inv ls a w → wpOp P ops Q i (Inv (upd ls i)) a w)
    (hend : ∀ ls a w, (∀ i, i < ops.size → ls i = true) → Inv ls a w → Q .normal a w) :
    ∀ (fuel : Nat) (listed : Array Bool) (a : Act) (w : World), listed.size = ops.size → unl ops.size listed ≤ fuel → Inv (fun j => listed.getD j false) a w → wpAny P .any ops Q fuel listed a w := by
  have hall : ∀ (listed : Array Bool), listed.size = ops.size → Region.ready .any ops listed = [] → ∀ i, i < ops.size → listed.getD i false = true := by
    intro listed hs hr i
    induction i using Nat.strongRecOn with
    | _ i ih =>
      intro hi
      cases hx : listed.getD i false with
      | true => rfl
      | false =>
        exfalso
        have : i ∈ Region.ready .any ops listed := by
          refine mem_ready.2 ⟨by rw [getD_sw (by rw [hs]; exact hi)]; exact hx, ops[i], by simp [hi], fun e he _ => ?_⟩
          have hlt := topo i ops[i] (by simp [hi]) e he
          exact ih e.on hlt (by omega)
        rw [hr] at this
        cases this
  intro fuel
  induction fuel with
  | zero =>
    intro listed a w hs hu hI
    have hr : Region.ready .any ops listed = [] := by
      apply List.eq_nil_iff_forall_not_mem.2
      intro i hi
      obtain ⟨h1, o, ho, -⟩ := mem_ready.1 hi
      have hlt : i < ops.size := (Array.getElem?_eq_some_iff.1 ho).1
      rw [getD_sw (by rw [hs]; exact hlt)] at h1
      have : i ∈ (List.range ops.size).filter fun i => !listed.getD i false := List.mem_filter.2 ⟨List.mem_range.2 hlt, by simp only [h1]; rfl⟩
      have h0 : ((List.range ops.size).filter fun i => !listed.getD i false) = [] := List.eq_nil_of_length_eq_zero (by unfold unl at hu; omega)
      rw [h0] at this
      cases this
    exact ⟨hr, hend _ a w (hall listed hs hr) hI⟩
  | succ fuel ih =>
    intro listed a w hs hu hI
    refine ⟨fun hr => hend _ a w (hall listed hs hr) hI, fun i hi => ?_⟩
    obtain ⟨h1, o, ho, hp⟩ := mem_ready.1 hi
    have hlt : i < ops.size := (Array.getElem?_eq_some_iff.1 ho).1
    rw [getD_sw (by rw [hs]; exact hlt)] at h1
    refine wpOp_mono' (fun a w h => ih (listed.setIfInBounds i true) a w (by simp [hs]) (by have := unl_set hlt (by rw [hs]; exact hlt) h1; omega) ?_) (hstep i o _ a w ho h1 hp hI)
    rw [upd_set (by rw [hs]; exact hlt)]
    exact h
theorem wpOp_of_walk {R : Act → World → Prop} {k : Nat} {a : Act} {w : World} (h : walk P ops (fun _ => True) (Qn Q R) [(k, 2)] a w) : wpOp P ops Q k R a w := by
  rw [walk] at h
  unfold wpOp
  cases ho : ops[k]? with
  | none => simp only [ho] at h
  | some o =>
    simp only [ho] at h ⊢
    split
    · rename_i hwt
      simp only [hwt, if_true] at h
      exact h.imp (fun h => Two.wp_qn (Oper.wp_mono (fun a w hk => hk.2) h)) (fun h => ⟨h.1, letsOut_qn h.2⟩)
    · rename_i hwt
      simp only [hwt] at h
      exact h
def topoB (lo : List Oper) : Bool := (List.range lo.length).all fun i => ((lo[i]?).map fun o => o.after.all fun e => decide (e.on < i)).getD true
/-- What has to have come up ahead of an operation. -/
def predsB (lo : List Oper) (ls : Nat → Bool) (i : Nat) : Bool := ((lo[i]?).map fun o => o.after.all fun e => !Region.binds .any e || ls e.on).getD false
theorem wpIn_regionI {l n : Nat} {id : Nat} {a : Act} {w : World} {lo : List Oper} (hO : ¬ LetsOut Q) (Inv : (Nat → Bool) → Act → World → Prop) (hm : P.follows .mixedOrders = true) (ht : topoB lo = true) (hd : lo.all noDefer = true) (h0 : Inv (fun _ => false) a w.drew)
    (hstep : ∀ i, i < lo.length → ∀ ls a w, ls i = false → predsB lo ls i = true → Inv ls a w → walk P lo.toArray (fun _ => True) (Qn Q (Inv (upd ls i))) [(i, 2)] a w)
    (hend : ∀ ls a w, (∀ i, i < lo.length → ls i = true) → Inv ls a w → Q .normal a w) : (Code.region id lo.toArray true).wpIn (Fence.wide.inRound l) n P Q a w := by
  refine wpIn_region_any hm (wpAnyIn_of hO (fun i o ho => List.all_eq_true.1 hd o (List.mem_of_getElem? (by simpa using ho))) _ _ _ _ ?_)
  refine any_inv (Inv := Inv) ?_ ?_ (fun ls a w h hI => hend ls a w (by simpa using h) hI) _ _ a _ (by simp) ?_ ?_
  · intro i o ho e he
    have hlt : i < lo.length := by have := (Array.getElem?_eq_some_iff.1 ho).1; simpa using this
    unfold topoB at ht
    have h1 := List.all_eq_true.1 ht i (List.mem_range.2 hlt)
    have ho' : lo[i]? = some o := by simpa using ho
    rw [ho'] at h1
    simp only [Option.map_some, Option.getD_some] at h1
    have h2 := Array.all_eq_true_iff_forall_mem.1 h1 e he
    simpa using h2
  · intro i o ls a w ho hi hp hI
    have hlt : i < lo.length := by have := (Array.getElem?_eq_some_iff.1 ho).1; simpa using this
    have ho' : lo[i]? = some o := by simpa using ho
    refine wpOp_of_walk (hstep i hlt ls a w hi ?_ hI)
    unfold predsB
    rw [ho']
    simp only [Option.map_some, Option.getD_some]
    refine Array.all_eq_true_iff_forall_mem.2 fun e he => ?_
    cases hb : Region.binds .any e with
    | false => rfl
    | true => simp [hp e he hb]
  · unfold unl
    exact Nat.le_trans (List.length_filter_le _ _) (by simp)
  · have : (fun j => (Array.replicate lo.toArray.size false).getD j false) = fun _ => false := by
      funext j
      by_cases h : j < lo.length <;> simp [h]
    rw [this]; exact h0
end Go.Ord
