/- Parts of a proof: OrdG, OrdT, MoA. -/
import Derived.Test.YteeinehpneppnaaW01
import Derived.Test.YteeinehpneppnaaW02
import Derived.Test.YteeinehpneppnaaW03
import Derived.Test.YteeinehpneppnaaW07
/- Drawn regions that are long: the look ahead goes F rounds only. -/
set_option linter.unusedVariables false
set_option linter.unusedSimpArgs false
namespace Go.Ord
/-- As calm, but the look ahead goes F rounds. -/
def calmG (F : Nat) (ops : Array Oper) (eff : Nat → Bool) (i : Nat) (listed : Array Bool) : Bool :=
  let L := reach ops i F listed
  (Region.ready .any ops L).all (· == i) && (List.range ops.size).all fun j => (!listed.getD j false || L.getD j false) && (listed.getD j true || !eff j || j == i || !L.getD j false)
theorem calmG_spec {F : Nat} {ops : Array Oper} {eff : Nat → Bool} {i : Nat} {listed : Array Bool} (hs : listed.size = ops.size) (h : calmG F ops eff i listed = true) : ∃ L, Calm ops eff i L listed := by
  unfold calmG at h
  simp only [Bool.and_eq_true, List.all_eq_true, List.mem_range, beq_iff_eq, Bool.or_eq_true, Bool.not_eq_true'] at h
  obtain ⟨h1, h2⟩ := h
  refine ⟨reach ops i F listed, h1, fun j hj hl => ?_, fun j hj hl hne hL => ?_, by rw [reach_size, hs], hs⟩
  · have := (h2 j hj).1
    rw [hl] at this
    simpa using this
  · have := (h2 j hj).2
    rw [hl, hL] at this
    simpa [hne] using this
variable {P : Program} {ops : Array Oper} {Q : Exit → Act → World → Prop} {H : World → Prop} {eff : Nat → Bool}
def planG (F : Nat) (ops : Array Oper) (eff : Nat → Bool) : List (Nat × Nat) → Array Bool → Bool
  | [], listed => (Region.ready .any ops listed).isEmpty
  | (k, c) :: l, listed =>
    (if eff k then c == 2 && decide (Region.ready .any ops listed = [k])
     else decide (c < 2) && (decide (Region.ready .any ops listed = [k]) || ((Region.ready .any ops listed).contains k && Region.free .any ops listed k && (c == 1 || calmG F ops eff k listed)))) &&
    planG F ops eff l (listed.setIfInBounds k true)
def planOkG (F : Nat) (ops : Array Oper) (l : List (Nat × Nat)) : Bool :=
  Region.noSelect ops && l.length == ops.size && planG F ops (fun i => l.any fun (k, c) => k == i && c == 2) l (Array.replicate ops.size false)
theorem any_of_walkG (F : Nat) (hs : Region.noSelect ops = true) (hQ : ∀ c a d v w, Q (.panic c) (a.put d v) w → Q (.panic c) a w) : ∀ (l : List (Nat × Nat)) (listed : Array Bool) (a : Act) (w : World), listed.size = ops.size → H w →
    planG F ops eff l listed = true → walk P ops H Q l a w → any P ops eff H Q l.length listed a w
  | [], _, _, _, _, _, hB, h => ⟨by simpa [planG] using hB, h⟩
  | (k, c) :: l, listed, a, w, hsz, hw, hB, h => by
    rw [planG, Bool.and_eq_true] at hB
    obtain ⟨hB, hB'⟩ := hB
    rw [walk] at h
    cases ho : ops[k]? with
    | none => simp only [ho] at h
    | some o =>
      simp only [ho] at h
      have hsz' : (listed.setIfInBounds k true).size = ops.size := by simp [hsz]
      have ih : ∀ a w, H w → walk P ops H Q l a w → any P ops eff H Q l.length (listed.setIfInBounds k true) a w := fun a w h1 h2 => any_of_walkG F hs hQ l _ a w hsz' h1 hB' h2
      cases he : eff k with
      | true =>
        simp only [he, if_true, Bool.and_eq_true, beq_iff_eq, decide_eq_true_eq] at hB
        obtain ⟨rfl, hr⟩ := hB
        refine ⟨fun h0 => (by rw [h0] at hr; cases hr), fun j hj => ?_⟩
        rw [hr] at hj
        have hjk : j = k := by simpa using hj
        subst hjk
        unfold op
        simp only [ho, he, if_true]
        split
        · rename_i hwt
          simp only [hwt, if_true] at h
          exact h.imp (Oper.wp_mono (fun a w hk => ⟨hk.1, ih a w hk.1 hk.2⟩)) id
        · rename_i hwt
          simp only [hwt] at h
          exact ih _ _ hw h
      | false =>
        simp only [he, Bool.false_eq_true, if_false, Bool.and_eq_true, Bool.or_eq_true, beq_iff_eq, decide_eq_true_eq] at hB
        obtain ⟨hc2, hone | ⟨⟨hr, hf⟩, hcc⟩⟩ := hB
        · refine ⟨fun h0 => (by rw [h0] at hone; cases hone), fun j hj => ?_⟩
          rw [hone] at hj
          have hjk : j = k := by simpa using hj
          subst hjk
          unfold op
          simp only [ho, he, Bool.false_eq_true, if_false]
          split
          · rename_i hwt
            simp only [hwt, if_true] at h
            match c, hc2, h with
            | 0, _, h =>
              obtain ⟨v, h1, h2⟩ := h
              exact ⟨v, h1, ih _ _ hw h2⟩
            | 1, _, h =>
              obtain ⟨v, h1, h2⟩ := h
              exact ⟨v, h1 w hw, ih _ _ hw h2⟩
            | (n + 2), hc2, _ => exact absurd hc2 (by omega)
          · rename_i hwt
            simp only [hwt] at h
            exact ih _ _ hw h
        have hr' : k ∈ Region.ready .any ops listed := by simpa using hr
        by_cases hwt : Region.wanted o (yielded ops a.tmps) = true
        · simp only [hwt, if_true] at h
          match c, hc2, h with
          | 0, _, h =>
            obtain ⟨v, h1, h2⟩ := h
            have hcalm : calmG F ops eff k listed = true := hcc.resolve_left (by simp)
            obtain ⟨L, hL⟩ := calmG_spec hsz hcalm
            exact any_calm ho he (Region.noSelect_spec hs) (fun c a w => hQ c a _ _ w) l.length listed a hL (Region.free_spec ho hf) hr' (.inl ⟨hwt, fun w' e => by subst e; exact h1⟩) (ih _ _ hw h2)
          | 1, _, h =>
            obtain ⟨v, h1, h2⟩ := h
            exact any_first ho he (Region.noSelect_spec hs) (fun c a w => hQ c a _ _ w) l.length listed a w hw (Region.free_spec ho hf) hr' (.inl ⟨hwt, h1⟩) (ih _ _ hw h2)
          | (n + 2), hc2, _ => exact absurd hc2 (by omega)
        · have hwt' : Region.wanted o (yielded ops a.tmps) = false := by simpa using hwt
          simp only [hwt', Bool.false_eq_true, if_false] at h
          exact any_first ho he (Region.noSelect_spec hs) (fun c a w => hQ c a _ _ w) l.length listed a w hw (Region.free_spec ho hf) hr' (.inr ⟨hwt', rfl⟩) (ih _ _ hw h)
theorem wp_regionG {id : Nat} {a : Act} {w : World} {lo : List Oper} (F : Nat) (l : List (Nat × Nat)) (H : World → Prop) (hm : P.follows .mixedOrders = true) (hp : planOkG F lo.toArray l = true)
    (hQ : ∀ c a d v w, Q (.panic c) (a.put d v) w → Q (.panic c) a w) (hH : H w.drew) (h : walk P lo.toArray H Q l a w.drew) : (Code.region id lo.toArray true).wp P Q a w := by
  simp only [planOkG, Bool.and_eq_true, beq_iff_eq] at hp
  obtain ⟨⟨hs, hl⟩, hp⟩ := hp
  refine wp_region_any hm (wpAny_of_any (H := H) (eff := fun i => l.any fun (k, c) => k == i && c == 2) _ _ _ _ ?_)
  have h2 := any_of_walkG F (H := H) (eff := fun i => l.any fun (k, c) => k == i && c == 2) hs hQ l (Array.replicate lo.toArray.size false) a _ (by simp) hH hp h
  rw [hl] at h2
  exact h2
end Go.Ord
/- Drawn regions in which, here and there, two or three effects are ready at once: a tree of orders is walked. -/
set_option linter.unusedVariables false
set_option linter.unusedSimpArgs false
namespace Go.Ord
/-- A tree of orders. -/
inductive Pl where
  | leaf (l : List (Nat × Nat))
  | fork2 (l : List (Nat × Nat)) (k1 : Nat) (t1 : Pl) (k2 : Nat) (t2 : Pl)
  | fork3 (l : List (Nat × Nat)) (k1 : Nat) (t1 : Pl) (k2 : Nat) (t2 : Pl) (k3 : Nat) (t3 : Pl)
namespace Pl
def len : Pl → Nat
  | leaf l => l.length
  | fork2 l _ t1 _ _ => l.length + (t1.len + 1)
  | fork3 l _ t1 _ _ _ _ => l.length + (t1.len + 1)
def effs : Pl → List Nat
  | leaf l => (l.filter (·.2 == 2)).map (·.1)
  | fork2 l k1 t1 _ _ => (l.filter (·.2 == 2)).map (·.1) ++ k1 :: t1.effs
  | fork3 l k1 t1 _ _ _ _ => (l.filter (·.2 == 2)).map (·.1) ++ k1 :: t1.effs
end Pl
variable {P : Program} {ops : Array Oper} {Q : Exit → Act → World → Prop} {H : World → Prop} {eff : Nat → Bool}
def okP (F : Nat) (ops : Array Oper) (eff : Nat → Bool) (k c : Nat) (listed : Array Bool) : Bool :=
  if eff k then c == 2 && decide (Region.ready .any ops listed = [k])
  else decide (c < 2) && (decide (Region.ready .any ops listed = [k]) || ((Region.ready .any ops listed).contains k && Region.free .any ops listed k && (c == 1 || calmG F ops eff k listed)))
def planP (F : Nat) (ops : Array Oper) (eff : Nat → Bool) : List (Nat × Nat) → Array Bool → Option (Array Bool)
  | [], listed => some listed
  | (k, c) :: l, listed => if okP F ops eff k c listed = true then planP F ops eff l (listed.setIfInBounds k true) else none
def planT (F : Nat) (ops : Array Oper) (eff : Nat → Bool) : Pl → Array Bool → Bool
  | .leaf l, listed => match planP F ops eff l listed with
    | some L => (Region.ready .any ops L).isEmpty
    | none => false
  | .fork2 l k1 t1 k2 t2, listed => match planP F ops eff l listed with
    | some L => decide (Region.ready .any ops L = [k1, k2]) && (eff k1 && (eff k2 && (t2.len == t1.len && (planT F ops eff t1 (L.setIfInBounds k1 true) && planT F ops eff t2 (L.setIfInBounds k2 true)))))
    | none => false
  | .fork3 l k1 t1 k2 t2 k3 t3, listed => match planP F ops eff l listed with
    | some L => decide (Region.ready .any ops L = [k1, k2, k3]) && (eff k1 && (eff k2 && (eff k3 && (t2.len == t1.len && (t3.len == t1.len && (planT F ops eff t1 (L.setIfInBounds k1 true) && (planT F ops eff t2 (L.setIfInBounds k2 true) && planT F ops eff t3 (L.setIfInBounds k3 true))))))))
    | none => false
/-- What is owed behind an effect. -/
def Owed (p : Act → World → Prop) : Act → World → Prop := p
def walkT (P : Program) (ops : Array Oper) (H : World → Prop) (Q : Exit → Act → World → Prop) : Pl → Act → World → Prop
  | .leaf l, a, w => walk P ops H Q l a w
  | .fork2 l k1 t1 k2 t2, a, w => walk P ops H (Qn Q (Owed fun a w => walk P ops H (Qn Q (walkT P ops H Q t1)) [(k1, 2)] a w ∧ walk P ops H (Qn Q (walkT P ops H Q t2)) [(k2, 2)] a w)) l a w
  | .fork3 l k1 t1 k2 t2 k3 t3, a, w => walk P ops H (Qn Q (Owed fun a w => walk P ops H (Qn Q (walkT P ops H Q t1)) [(k1, 2)] a w ∧ walk P ops H (Qn Q (walkT P ops H Q t2)) [(k2, 2)] a w ∧ walk P ops H (Qn Q (walkT P ops H Q t3)) [(k3, 2)] a w)) l a w
theorem letsOut_qn {R : Act → World → Prop} (h : LetsOut (Qn Q R)) : LetsOut Q := h
theorem planP_size {F : Nat} : ∀ (l : List (Nat × Nat)) (listed L : Array Bool), planP F ops eff l listed = some L → L.size = listed.size
  | [], listed, L, h => by simp only [planP, Option.some.injEq] at h; subst h; rfl
  | (k, c) :: l, listed, L, h => by
    rw [planP] at h
    split at h
    · have := planP_size l _ _ h; simpa using this
    · cases h
theorem any_of_part (F : Nat) {R : Act → World → Prop} {m : Nat} {L : Array Bool} (hs : Region.noSelect ops = true) (hQ : ∀ c a d v w, Q (.panic c) (a.put d v) w → Q (.panic c) a w)
    (hR : ∀ a w, H w → R a w → any P ops eff H Q m L a w) : ∀ (l : List (Nat × Nat)) (listed : Array Bool) (a : Act) (w : World), listed.size = ops.size → H w →
    planP F ops eff l listed = some L → walk P ops H (Qn Q R) l a w → any P ops eff H Q (l.length + m) listed a w
  | [], listed, a, w, _, hw, hB, h => by
    simp only [planP, Option.some.injEq] at hB
    subst hB
    simp only [List.length_nil, Nat.zero_add]
    exact hR a w hw h
  | (k, c) :: l, listed, a, w, hsz, hw, hB, h => by
    rw [planP] at hB
    split at hB
    · rename_i hb
      unfold okP at hb
      rw [walk] at h
      cases ho : ops[k]? with
      | none => simp only [ho] at h
      | some o =>
        simp only [ho] at h
        have hsz' : (listed.setIfInBounds k true).size = ops.size := by simp [hsz]
        have ih : ∀ a w, H w → walk P ops H (Qn Q R) l a w → any P ops eff H Q (l.length + m) (listed.setIfInBounds k true) a w := fun a w h1 h2 => any_of_part F hs hQ hR l _ a w hsz' h1 hB h2
        have hlen : ((k, c) :: l).length + m = l.length + m + 1 := by simp; omega
        rw [hlen]
        cases he : eff k with
        | true =>
          simp only [he, if_true, Bool.and_eq_true, beq_iff_eq, decide_eq_true_eq] at hb
          obtain ⟨rfl, hr⟩ := hb
          refine ⟨fun h0 => (by rw [h0] at hr; cases hr), fun j hj => ?_⟩
          rw [hr] at hj
          have hjk : j = k := by simpa using hj
          subst hjk
          unfold op
          simp only [ho, he, if_true]
          split
          · rename_i hwt
            simp only [hwt, if_true] at h
            exact h.imp (fun h => Two.wp_qn (Oper.wp_mono (fun a w hk => ⟨hk.1, ih a w hk.1 hk.2⟩) h)) (fun h => ⟨h.1, letsOut_qn h.2⟩)
          · rename_i hwt
            simp only [hwt] at h
            exact ih _ _ hw h
        | false =>
          simp only [he, Bool.false_eq_true, if_false, Bool.and_eq_true, Bool.or_eq_true, beq_iff_eq, decide_eq_true_eq] at hb
          obtain ⟨hc2, hone | ⟨⟨hr, hf⟩, hcc⟩⟩ := hb
          · refine ⟨fun h0 => (by rw [h0] at hone; cases hone), fun j hj => ?_⟩
            rw [hone] at hj
            have hjk : j = k := by simpa using hj
            subst hjk
            unfold op
            simp only [ho, he, Bool.false_eq_true, if_false]
            split
            · rename_i hwt
              simp only [hwt, if_true] at h
              match c, hc2, h with
              | 0, _, h =>
                obtain ⟨v, h1, h2⟩ := h
                exact ⟨v, h1, ih _ _ hw h2⟩
              | 1, _, h =>
                obtain ⟨v, h1, h2⟩ := h
                exact ⟨v, h1 w hw, ih _ _ hw h2⟩
              | (n + 2), hc2, _ => exact absurd hc2 (by omega)
            · rename_i hwt
              simp only [hwt] at h
              exact ih _ _ hw h
          have hr' : k ∈ Region.ready .any ops listed := by simpa using hr
          by_cases hwt : Region.wanted o (yielded ops a.tmps) = true
          · simp only [hwt, if_true] at h
            match c, hc2, h with
            | 0, _, h =>
              obtain ⟨v, h1, h2⟩ := h
              have hcalm : calmG F ops eff k listed = true := hcc.resolve_left (by simp)
              obtain ⟨L', hL⟩ := calmG_spec hsz hcalm
              exact any_calm ho he (Region.noSelect_spec hs) (fun c a w => hQ c a _ _ w) (l.length + m) listed a hL (Region.free_spec ho hf) hr' (.inl ⟨hwt, fun w' e => by subst e; exact h1⟩) (ih _ _ hw h2)
            | 1, _, h =>
              obtain ⟨v, h1, h2⟩ := h
              exact any_first ho he (Region.noSelect_spec hs) (fun c a w => hQ c a _ _ w) (l.length + m) listed a w hw (Region.free_spec ho hf) hr' (.inl ⟨hwt, h1⟩) (ih _ _ hw h2)
            | (n + 2), hc2, _ => exact absurd hc2 (by omega)
          · have hwt' : Region.wanted o (yielded ops a.tmps) = false := by simpa using hwt
            simp only [hwt', Bool.false_eq_true, if_false] at h
            exact any_first ho he (Region.noSelect_spec hs) (fun c a w => hQ c a _ _ w) (l.length + m) listed a w hw (Region.free_spec ho hf) hr' (.inr ⟨hwt', rfl⟩) (ih _ _ hw h)
    · cases hB
/-- One of the effects that are ready. -/
theorem op_of_one {R : Act → World → Prop} {n k : Nat} {listed : Array Bool} {a : Act} {w : World} (hw : H w) (he : eff k = true) (hR : ∀ a w, H w → R a w → any P ops eff H Q n (listed.setIfInBounds k true) a w)
    (h : walk P ops H (Qn Q R) [(k, 2)] a w) : op P ops eff H Q k (any P ops eff H Q n (listed.setIfInBounds k true)) a w := by
  rw [walk] at h
  cases ho : ops[k]? with
  | none => simp only [ho] at h
  | some o =>
    simp only [ho] at h
    unfold op
    simp only [ho, he, if_true]
    split
    · rename_i hwt
      simp only [hwt, if_true] at h
      exact h.imp (fun h => Two.wp_qn (Oper.wp_mono (fun a w hk => ⟨hk.1, hR a w hk.1 hk.2⟩) h)) (fun h => ⟨h.1, letsOut_qn h.2⟩)
    · rename_i hwt
      simp only [hwt] at h
      exact hR _ _ hw h
theorem walk_qn : ∀ (l : List (Nat × Nat)) {a : Act} {w : World}, walk P ops H Q l a w → walk P ops H (Qn Q (fun a w => Q .normal a w)) l a w := by
  intro l a w h
  have : Qn Q (fun a w => Q .normal a w) = Q := by funext e a w; cases e <;> rfl
  rw [this]; exact h
theorem any_of_walkT (F : Nat) (hs : Region.noSelect ops = true) (hQ : ∀ c a d v w, Q (.panic c) (a.put d v) w → Q (.panic c) a w) : ∀ (t : Pl) (listed : Array Bool) (a : Act) (w : World), listed.size = ops.size → H w →
    planT F ops eff t listed = true → walkT P ops H Q t a w → any P ops eff H Q t.len listed a w
  | .leaf l, listed, a, w, hsz, hw, hB, h => by
    rw [planT] at hB
    cases hp : planP F ops eff l listed with
    | none => simp only [hp] at hB; cases hB
    | some L =>
      simp only [hp] at hB
      have := any_of_part (m := 0) F hs hQ (fun a w _ h => ⟨by simpa using hB, h⟩) l listed a w hsz hw hp (walk_qn l h)
      exact this
  | .fork2 l k1 t1 k2 t2, listed, a, w, hsz, hw, hB, h => by
    rw [planT] at hB
    cases hp : planP F ops eff l listed with
    | none => simp only [hp] at hB; cases hB
    | some L =>
      simp only [hp, Bool.and_eq_true, decide_eq_true_eq, beq_iff_eq] at hB
      obtain ⟨hr, he1, he2, hl, h1, h2⟩ := hB
      have hLs : L.size = ops.size := (planP_size l _ _ hp).trans hsz
      refine any_of_part (m := t1.len + 1) F hs hQ (fun a w hw ho => ?_) l listed a w hsz hw hp h
      obtain ⟨o1, o2⟩ := ho
      refine ⟨fun h0 => (by rw [h0] at hr; cases hr), fun j hj => ?_⟩
      rw [hr] at hj
      simp only [List.mem_cons, List.not_mem_nil, or_false] at hj
      rcases hj with rfl | rfl
      · exact op_of_one hw he1 (fun a w hw ht => any_of_walkT F hs hQ t1 _ a w (by simp [hLs]) hw h1 ht) o1
      · exact op_of_one hw he2 (fun a w hw ht => hl ▸ any_of_walkT F hs hQ t2 _ a w (by simp [hLs]) hw h2 ht) o2
  | .fork3 l k1 t1 k2 t2 k3 t3, listed, a, w, hsz, hw, hB, h => by
    rw [planT] at hB
    cases hp : planP F ops eff l listed with
    | none => simp only [hp] at hB; cases hB
    | some L =>
      simp only [hp, Bool.and_eq_true, decide_eq_true_eq, beq_iff_eq] at hB
      obtain ⟨hr, he1, he2, he3, hl2, hl3, h1, h2, h3⟩ := hB
      have hLs : L.size = ops.size := (planP_size l _ _ hp).trans hsz
      refine any_of_part (m := t1.len + 1) F hs hQ (fun a w hw ho => ?_) l listed a w hsz hw hp h
      obtain ⟨o1, o2, o3⟩ := ho
      refine ⟨fun h0 => (by rw [h0] at hr; cases hr), fun j hj => ?_⟩
      rw [hr] at hj
      simp only [List.mem_cons, List.not_mem_nil, or_false] at hj
      rcases hj with rfl | rfl | rfl
      · exact op_of_one hw he1 (fun a w hw ht => any_of_walkT F hs hQ t1 _ a w (by simp [hLs]) hw h1 ht) o1
      · exact op_of_one hw he2 (fun a w hw ht => hl2 ▸ any_of_walkT F hs hQ t2 _ a w (by simp [hLs]) hw h2 ht) o2
      · exact op_of_one hw he3 (fun a w hw ht => hl3 ▸ any_of_walkT F hs hQ t3 _ a w (by simp [hLs]) hw h3 ht) o3
def planOkT (F : Nat) (ops : Array Oper) (t : Pl) : Bool := Region.noSelect ops && t.len == ops.size && planT F ops (fun i => t.effs.contains i) t (Array.replicate ops.size false)
theorem wp_regionT {id : Nat} {a : Act} {w : World} {lo : List Oper} (F : Nat) (t : Pl) (H : World → Prop) (hm : P.follows .mixedOrders = true) (hp : planOkT F lo.toArray t = true)
    (hQ : ∀ c a d v w, Q (.panic c) (a.put d v) w → Q (.panic c) a w) (hH : H w.drew) (h : walkT P lo.toArray H Q t a w.drew) : (Code.region id lo.toArray true).wp P Q a w := by
  simp only [planOkT, Bool.and_eq_true, beq_iff_eq] at hp
  obtain ⟨⟨hs, hl⟩, hp⟩ := hp
  refine wp_region_any hm (wpAny_of_any (H := H) (eff := fun i => t.effs.contains i) _ _ _ _ ?_)
  have h2 := any_of_walkT F (H := H) (eff := fun i => t.effs.contains i) hs hQ t (Array.replicate lo.toArray.size false) a _ (by simp) hH hp h
  rw [hl] at h2
  exact h2
theorem wpIn_regionT {l n : Nat} {id : Nat} {a : Act} {w : World} {lo : List Oper} (hO : ¬ LetsOut Q) (F : Nat) (t : Pl) (H : World → Prop) (hm : P.follows .mixedOrders = true) (hp : planOkT F lo.toArray t = true) (hd : lo.all noDefer = true)
    (hQ : ∀ c a d v w, Q (.panic c) (a.put d v) w → Q (.panic c) a w) (hH : H w.drew) (h : walkT P lo.toArray H Q t a w.drew) : (Code.region id lo.toArray true).wpIn (Fence.wide.inRound l) n P Q a w := by
  simp only [planOkT, Bool.and_eq_true, beq_iff_eq] at hp
  obtain ⟨⟨hs, hl⟩, hp⟩ := hp
  refine wpIn_region_any hm (wpAnyIn_of hO (fun i o ho => List.all_eq_true.1 hd o (List.mem_of_getElem? (by simpa using ho))) _ _ _ _ (wpAny_of_any (H := H) (eff := fun i => t.effs.contains i) _ _ _ _ ?_))
  have h2 := any_of_walkT F (H := H) (eff := fun i => t.effs.contains i) hs hQ t (Array.replicate lo.toArray.size false) a _ (by simp) hH hp h
  rw [hl] at h2
  exact h2
/-- Two effects are ready. -/
theorem at_two {lo : List Oper} {a : Act} {w : World} {k1 k2 : Nat} {t1 t2 : Pl} (h1 : walk P lo.toArray H (Qn Q (walkT P lo.toArray H Q t1)) [(k1, 2)] a w) (h2 : walk P lo.toArray H (Qn Q (walkT P lo.toArray H Q t2)) [(k2, 2)] a w) :
    walk P lo.toArray H (Qn Q (Owed fun a w => walk P lo.toArray H (Qn Q (walkT P lo.toArray H Q t1)) [(k1, 2)] a w ∧ walk P lo.toArray H (Qn Q (walkT P lo.toArray H Q t2)) [(k2, 2)] a w)) [] a w := ⟨h1, h2⟩
theorem at_three {lo : List Oper} {a : Act} {w : World} {k1 k2 k3 : Nat} {t1 t2 t3 : Pl} (h1 : walk P lo.toArray H (Qn Q (walkT P lo.toArray H Q t1)) [(k1, 2)] a w) (h2 : walk P lo.toArray H (Qn Q (walkT P lo.toArray H Q t2)) [(k2, 2)] a w) (h3 : walk P lo.toArray H (Qn Q (walkT P lo.toArray H Q t3)) [(k3, 2)] a w) :
    walk P lo.toArray H (Qn Q (Owed fun a w => walk P lo.toArray H (Qn Q (walkT P lo.toArray H Q t1)) [(k1, 2)] a w ∧ walk P lo.toArray H (Qn Q (walkT P lo.toArray H Q t2)) [(k2, 2)] a w ∧ walk P lo.toArray H (Qn Q (walkT P lo.toArray H Q t3)) [(k3, 2)] a w)) [] a w := ⟨h1, h2, h3⟩
theorem tree_leaf {lo : List Oper} {a : Act} {w : World} {l : List (Nat × Nat)} (h : walk P lo.toArray H Q l a w) : walk P lo.toArray H (Qn Q (walkT P lo.toArray H Q (.leaf l))) [] a w := h
theorem tree_two {lo : List Oper} {a : Act} {w : World} {l : List (Nat × Nat)} {k1 k2 : Nat} {t1 t2 : Pl} (h : walk P lo.toArray H (Qn Q (Owed fun a w => walk P lo.toArray H (Qn Q (walkT P lo.toArray H Q t1)) [(k1, 2)] a w ∧ walk P lo.toArray H (Qn Q (walkT P lo.toArray H Q t2)) [(k2, 2)] a w)) l a w) : walk P lo.toArray H (Qn Q (walkT P lo.toArray H Q (.fork2 l k1 t1 k2 t2))) [] a w := h
theorem top_two {lo : List Oper} {a : Act} {w : World} {l : List (Nat × Nat)} {k1 k2 : Nat} {t1 t2 : Pl} (h : walk P lo.toArray H (Qn Q (Owed fun a w => walk P lo.toArray H (Qn Q (walkT P lo.toArray H Q t1)) [(k1, 2)] a w ∧ walk P lo.toArray H (Qn Q (walkT P lo.toArray H Q t2)) [(k2, 2)] a w)) l a w) : walkT P lo.toArray H Q (.fork2 l k1 t1 k2 t2) a w := h
theorem top_three {lo : List Oper} {a : Act} {w : World} {l : List (Nat × Nat)} {k1 k2 k3 : Nat} {t1 t2 t3 : Pl} (h : walk P lo.toArray H (Qn Q (Owed fun a w => walk P lo.toArray H (Qn Q (walkT P lo.toArray H Q t1)) [(k1, 2)] a w ∧ walk P lo.toArray H (Qn Q (walkT P lo.toArray H Q t2)) [(k2, 2)] a w ∧ walk P lo.toArray H (Qn Q (walkT P lo.toArray H Q t3)) [(k3, 2)] a w)) l a w) : walkT P lo.toArray H Q (.fork3 l k1 t1 k2 t2 k3 t3) a w := h
end Go.Ord
namespace Go.Ord.Two
variable {P : Program} {Q : Exit → Act → World → Prop}
theorem wpIn_region {l n : Nat} {id : Nat} {a : Act} {w : World} {lo : List Oper} (hO : ¬ LetsOut Q) (l1 l2 : List (Nat × Nat)) (H : World → Prop) (hm : P.follows .mixedOrders = true) (hp : planOk lo.toArray l1 l2 = true) (hd : lo.all noDefer = true)
    (hQ : ∀ c a d v w, Q (.panic c) (a.put d v) w → Q (.panic c) a w) (hH : H w.drew) (h : walk P lo.toArray H (Qn Q (walk P lo.toArray (fun _ => True) Q l2)) l1 a w.drew) : (Code.region id lo.toArray true).wpIn (Fence.wide.inRound l) n P Q a w := by
  simp only [planOk, Bool.and_eq_true, beq_iff_eq] at hp
  obtain ⟨⟨hs, hl⟩, hp⟩ := hp
  split at hp
  · cases hp
  · rename_i L hL
    refine wpIn_region_any hm (wpAnyIn_of hO (fun i o ho => List.all_eq_true.1 hd o (List.mem_of_getElem? (by simpa using ho))) _ _ _ _ (wpAny_of_any (H := H) (eff := isEff (l1 ++ l2)) (hold := isEff l1) _ _ _ _ ?_))
    have hsz : L.size = lo.toArray.size := by
      have : ∀ (l : List (Nat × Nat)) (x y : Array Bool), plan1 lo.toArray (isEff (l1 ++ l2)) (isEff l1) l x = some y → y.size = x.size := by
        intro l
        induction l with
        | nil => intro x y h; simp only [plan1, Option.some.injEq] at h; rw [h]
        | cons p l ih =>
          intro x y h
          rw [plan1] at h
          split at h
          · rw [ih _ _ h]; simp
          · cases h
      rw [this _ _ _ hL]; simp
    have h2 := any_of_walk1 (H := H) (eff := isEff (l1 ++ l2)) (hold := isEff l1) hs hQ (m := l2.length) (fun a w hR => any_of_walk2 hs hQ l2 L a w hsz hp hR) l1 (Array.replicate lo.toArray.size false) a _ (by simp) hH hL h
    rw [hl] at h2
    exact h2
end Go.Ord.Two
/- Package mob: contracts of the small functions; a way that is looked at. -/
set_option linter.unusedVariables false
set_option linter.unusedSimpArgs false
namespace Go.Proofs.Yteeinehpneppnaa
open Go.RowKit Go.Proofs
attribute [local irreducible] Ord.walk
theorem m_within (n lo hi : Int) (w : World) :
    Calls Try.prog 93 #[.int .i64 n, .int .i64 lo, .int .i64 hi] w (Same (.bool (inB n lo hi)) w) := by
  go_enter Try.func93, Try.ntmps93
  go_wp2
  all_goals go_ret
  all_goals (refine ⟨ret_bool ?_, rfl⟩; simp [inB]; try omega)
/-- The value that a panic of this error bears. -/
def stopV (e : Int) : Value := .iface 133 (.agg #[.int .i64 e])
/-- It panics with this error; nothing that was there has turned. -/
def Stops (e : Int) (w : World) (x : Ending) (w' : World) : Prop := x = .panicked [{ v := stopV e, recovered := false }] ∧ Below w.heap.size w w'
def StopsS (e : Int) (w : World) (x : Ending) (w' : World) : Prop := x = .panicked [{ v := stopV e, recovered := false }] ∧ w = w'
theorem m_must_yes (e : Int) (w : World) :
    Calls Try.prog 68 #[.bool true, .int .i64 e] w (Same (.tuple #[]) w) := by
  go_enter Try.func68, Try.ntmps68
  go_wp2
  go_end0
  exact ⟨rfl, rfl⟩
theorem m_must_no (e : Int) (w : World) :
    Calls Try.prog 68 #[.bool false, .int .i64 e] w (StopsS e w) := by
  go_enter Try.func68, Try.ntmps68
  go_wp2
  exact ⟨rfl, rfl, rfl⟩
theorem m_always (v : Value) (w : World) :
    Calls Try.prog 61 #[v] w (Same (.bool true) w) := by
  go_enter Try.func61, Try.ntmps61
  go_wp2
  go_ret
  exact ⟨rfl, rfl⟩
/-- The grade of what is so in each truth, or in some. -/
def grB (each some : Bool) : Int := if each then 2 else if some then 1 else 0
theorem m_graded (x y : Bool) (w : World) :
    Calls Try.prog 49 #[.bool x, .bool y] w (Same (.int .i64 (grB x y)) w) := by
  cases x <;> cases y
  all_goals
    go_enter Try.func49, Try.ntmps49
    go_wp2
    go_ret
    exact ⟨rfl, rfl⟩
theorem m_isDay (n : Int) (w : World) : Calls Try.prog 55 #[.int .i64 n] w (Same (.bool (inB n 0 100)) w) := by
  go_enter Try.func55, Try.ntmps55
  go_wp2_with (go_at_call 93; refine (m_within _ _ _ _).mono ?_; rintro e w' ⟨rfl, rfl⟩)
  go_ret
  exact ⟨rfl, rfl⟩
theorem m_isSpan (lo hi low high much : Int) (h1 : -1000 ≤ low) (h2 : high ≤ 1000) (w : World) :
    Calls Try.prog 92 #[.agg #[.int .i64 lo, .int .i64 hi], .int .i64 low, .int .i64 high, .int .i64 much] w (Gives (.bool (spanM lo hi low high much)) w) := by
  go_enter Try.func92, Try.ntmps92
  go_wp2
  all_goals go_ret
  all_goals (refine ⟨ret_bool ?_, (Below.refl _ _).alloc (Nat.le_refl _) _⟩; simp [spanM, *]; try omega)
theorem agg_span : AggTy Try.prog 39 2 := ⟨_, Try.underlying39, rfl, by kernel_rfl⟩
abbrev spv (s : Int × Int) : Value := .agg #[.int .i64 s.1, .int .i64 s.2]
theorem m_moved (lo hi n : Int) (h1 : -1000000 ≤ lo ∧ lo ≤ 1000000) (h2 : -1000000 ≤ hi ∧ hi ≤ 1000000) (h3 : -1000000 ≤ n ∧ n ≤ 1000000) (w : World) :
    Calls Try.prog 103 #[spv (lo, hi), .int .i64 n] w (Gives (spv (lo + n, hi + n)) w) := by
  unfold spv
  go_enter Try.func103, Try.ntmps103
  go_wp2_with (refine wpList_store_blk 39 (.tmp 4) (.tmp 13) agg_span rfl rfl rfl rfl (Blk.new' _ _ _ _ (by simp)) rfl rfl (by simp [Value.oneCell']) ?_; intro w2 h2)
  (try simp only [Exit.inBlock, Exit.then])
  refine bodyPost_ret (v := .agg #[.int .i64 (lo + n), .int .i64 (hi + n)]) (results_cell_blk rfl _ agg_span rfl h2.blk rfl) rfl ⟨rfl, ?_⟩
  exact h2.below (((Below.refl _ _).alloc (Nat.le_refl _) _).alloc (by simp) _) (by omega)
/-! Places. -/
def spotV (p : Bool × Int) : Value := if p.1 then .iface 140 (.agg #[.int .i64 p.2]) else .iface 136 (.agg #[])
theorem m_bare_on (d : Int) (w : World) : Calls Try.prog 132 #[.agg #[], .int .i64 d] w (Gives (.int .i64 d) w) := by
  go_enter Try.func132, Try.ntmps132
  go_wp2
  go_ret
  exact ⟨rfl, by (repeat (first | assumption | exact Below.refl _ _ | refine Below.drew ?_ | refine Below.alloc ?_ (by first | omega | (simp; done) | (simp; omega)) _ | refine Below.setCell ?_ (by first | omega | (simp; done) | (simp; omega)) _ | refine Below.trans ?_ (Below.mono (by assumption) (by first | omega | (simp; done) | (simp; omega)))))⟩
theorem m_bare_drinks (w : World) : Calls Try.prog 131 #[.agg #[]] w (Gives (.bool false) w) := by
  go_enter Try.func131, Try.ntmps131
  go_wp2
  go_ret
  exact ⟨rfl, by (repeat (first | assumption | exact Below.refl _ _ | refine Below.drew ?_ | refine Below.alloc ?_ (by first | omega | (simp; done) | (simp; omega)) _ | refine Below.setCell ?_ (by first | omega | (simp; done) | (simp; omega)) _ | refine Below.trans ?_ (Below.mono (by assumption) (by first | omega | (simp; done) | (simp; omega)))))⟩
theorem m_pool_drinks (r : Int) (w : World) : Calls Try.prog 133 #[.agg #[.int .i64 r]] w (Gives (.bool true) w) := by
  go_enter Try.func133, Try.ntmps133
  go_wp2
  go_ret
  exact ⟨rfl, by (repeat (first | assumption | exact Below.refl _ _ | refine Below.drew ?_ | refine Below.alloc ?_ (by first | omega | (simp; done) | (simp; omega)) _ | refine Below.setCell ?_ (by first | omega | (simp; done) | (simp; omega)) _ | refine Below.trans ?_ (Below.mono (by assumption) (by first | omega | (simp; done) | (simp; omega)))))⟩
theorem Try.byteOfCell_pool : byteOfCell Try.prog Try.prog.depth 140 0 = some 0 := by kernel_rfl
theorem Try.cellsOf_pool : Try.prog.cellsOf 140 = 1 := by kernel_rfl
/-- The address of the part of size zero. -/
theorem part_pool (W : World) (b : Nat) (r : Value) (h : Blk W b #[r] 140) : (partAt ⟨b, 0, none⟩ 0 0).run Try.prog W = .ok ⟨b, 0, none⟩ W := by
  have hh : W.heap[b]? = some (.cells #[r] 140 (0, 0)) := h
  have hs : W.shape? b = some (140, 1) := by simp [World.shape?, hh]
  simp [partAt, byteOf, noView, viewAt, Sem.run_bind, Result.andThen, Sem.run, shape, hs, go_sem, Try.byteOfCell_pool, Try.cellsOf_pool, program]
theorem m_pool_on (r d : Int) (hr : 0 ≤ r ∧ r ≤ 1000) (hd : -1000000 ≤ d ∧ d ≤ 1000000) (w : World) : Calls Try.prog 134 #[.agg #[.int .i64 r], .int .i64 d] w (Gives (.int .i64 (d + r)) w) := by
  go_enter Try.func134, Try.ntmps134
  have b1 := Blk.new w #[.int .i64 r] 140
  have r1 := b1.cell
  have hp := part_pool _ _ _ b1.drew
  go_wp2_with fail
  refine Ord.wp_region [(0, 0), (1, 0), (2, 0), (4, 1), (5, 1), (3, 2), (6, 0), (7, 0)] (fun W' => Below (w.heap.size + 1) (w.alloc (.cells #[.int .i64 r] 140)) W') (by kernel_rfl) (by kernel_rfl) (fun c a d v w h => by cases d <;> exact h) (Below.refl _ _).drew ?_
  go_wp2_with (first
    | (go_at_call 132; refine (m_bare_on _ _).mono ?_; rintro e w2 ⟨rfl, hb2⟩)
    | ((with_reducible refine Ord.at_wild ?_); refine Ord.wild_load (ad := ⟨w.heap.size, 0, none⟩) (.int .i64 r) rfl rfl ?_ ?_; (focus (intro W hW; obtain ⟨cW, _, zW⟩ := below_rules hW rfl; simp [go_sem, cW, ↓IntWalk.iteOmega, r1]; done)); intro K hK)
    | ((with_reducible refine Ord.at_calm ?_); refine Ord.calm_skip rfl ?_ (fun K hK => ?_); (focus (simp [Region.wanted, yielded]; done))) | with_reducible refine Ord.walk_calm rfl rfl (fun K hK => ?_) | ((with_reducible refine Ord.at_wild ?_); refine Ord.wild_fieldAddr rfl rfl (fun W => by simp [go_sem]; rfl) (fun K hK => ?_)) | ((with_reducible refine Ord.at_wild ?_); refine Ord.wild_move rfl rfl (fun K hK => ?_)) | ((with_reducible refine Ord.at_wild ?_); refine Ord.wild_nilCheck rfl rfl (fun K hK => ?_)) | with_reducible refine Ord.walk_eff rfl (by first | (simp; done) | assumption | (go_simp; done) | (repeat (first | assumption | exact Below.refl _ _ | refine Below.drew ?_ | refine Below.alloc ?_ (by first | omega | (simp; done) | (simp; omega)) _ | refine Below.setCell ?_ (by first | omega | (simp; done) | (simp; omega)) _ | refine Below.trans ?_ (Below.mono (by assumption) (by first | omega | (simp; done) | (simp; omega)))))) (fun K hK => ?_) | with_reducible refine Ord.at_fork ?_ ?_ | with_reducible refine Ord.walk_nil ?_ | (with_reducible refine Ord.next_of (by first | (simp; done) | (go_simp; done) | (repeat (first | assumption | exact Below.refl _ _ | refine Below.drew ?_ | refine Below.alloc ?_ (by first | omega | (simp; done) | (simp; omega)) _ | refine Below.setCell ?_ (by first | omega | (simp; done) | (simp; omega)) _ | refine Below.trans ?_ (Below.mono (by assumption) (by first | omega | (simp; done) | (simp; omega)))))) (fun _ => ?_)))
  go_ret
  exact ⟨rfl, ((Below.refl _ _).alloc (Nat.le_refl _) _).trans (Below.mono (by assumption) (by omega))⟩
/-! A way that is looked at. -/
abbrev wcells (m : Mb) (A : Ma) (pa : Option Addr) (pc mb : Nat) : Array Value := #[.slice A.pa m.places.length A.pc, .slice A.la m.legs.length A.lc, .slice A.ha m.herds.length A.hc, .slice A.sa m.seen.length A.sc, .slice pa m.places.length pc, .map (some mb)]
structure WayAt (w : World) (wp : Nat) (m : Mb) (A : Ma) (pa : Option Addr) (pc mb : Nat) : Prop where
  blk : Blk w wp (wcells m A pa pc mb) 126
  args : MbAt w m A
  spots : RowsAt w pa 1 (fun p => [spotV p]) m.places
theorem WayAt.lets {X : Nat → Option Obj → Prop} {w w' : World} {wp : Nat} {m : Mb} {A : Ma} {pa : Option Addr} {pc mb : Nat} (h : WayAt w wp m A pa pc mb) (hl : Lets X w w') (hX : ∀ k c t f, w.heap[k]? = some (.cells c t f) → ¬ X k w.heap[k]?) : WayAt w' wp m A pa pc mb := by
  have hc : ∀ {a : Addr} {v : Value}, w.cell? a = some v → w'.cell? a = some v := fun {a v} h => by
    refine hl.cell h ?_
    obtain ⟨o, ho, hk⟩ := cells_of_cell h
    cases o with
    | cells c t f => exact hX _ c t f ho
    | _ => simp [Obj.isCells] at hk
  have hr : ∀ {α : Type} {a : Option Addr} {n : Nat} {f : α → List Value} {l : List α}, RowsAt w a n f l → RowsAt w' a n f l := fun h i hi =>
    let ⟨gb, go, h0, h1⟩ := h i hi
    ⟨gb, go, h0, fun j u hj => hc (h1 j u hj)⟩
  exact ⟨hl.blk h.blk (hX _ _ _ _ h.blk), ⟨hr h.args.places, hr h.args.legs, hr h.args.herds, hr h.args.seen⟩, hr h.spots⟩
theorem WayAt.below {w w' : World} {wp : Nat} {m : Mb} {A : Ma} {pa : Option Addr} {pc mb : Nat} (h : WayAt w wp m A pa pc mb) (hb : Below w.heap.size w w') : WayAt w' wp m A pa pc mb :=
  h.lets (X := fun _ _ => False) (Lets.of_below hb) (fun _ _ _ _ _ e => e)
def herdB (m : Mb) (n : Int) : Bool := inB n 0 (m.herds.length - 1)
def fromP (m : Mb) (h n : Int) : Bool := herdB m h && inB n (startI m h) (m.places.length - 1)
theorem m_isHerd (wp : Nat) (m : Mb) (A : Ma) (pa : Option Addr) (pn pc mb : Nat) (n : Int) (w : World) (hl : m.herds.length ≤ 40) (h : w.cell? ⟨wp, 2, none⟩ = some (.slice A.ha m.herds.length A.hc)) :
    Calls Try.prog 44 #[.pointer (some ⟨wp, 0, none⟩), .int .i64 n] w (Same (.bool (herdB m n)) w) := by
  have hl2 : (m.herds.length : Int) ≤ 40 := by omega
  go_enter Try.func44, Try.ntmps44
  go_wp2_with (go_at_call 93; refine (m_within _ _ _ _).mono ?_; rintro e w' ⟨rfl, rfl⟩)
  go_ret
  exact ⟨rfl, rfl⟩
theorem m_every (wp : Nat) (n c : Nat) (a : Option Addr) (w : World) (hl : n ≤ 5) (h : w.cell? ⟨wp, 3, none⟩ = some (.slice a n c)) :
    Calls Try.prog 47 #[.pointer (some ⟨wp, 0, none⟩)] w (Same (.int .u64 ((2 ^ n - 1 : Nat) : Int)) w) := by
  go_enter Try.func47, Try.ntmps47
  go_wp2
  go_ret
  refine ⟨ret_int ?_, rfl⟩
  rcases (show n = 0 ∨ n = 1 ∨ n = 2 ∨ n = 3 ∨ n = 4 ∨ n = 5 by omega) with rfl | rfl | rfl | rfl | rfl | rfl <;> rfl
set_option maxHeartbeats 4000000 in
set_option maxRecDepth 100000 in
theorem m_isFrom (wp : Nat) (m : Mb) (A : Ma) (h n : Int) (w : World) (hl : Mlen m) (h0 : w.cell? ⟨wp, 0, none⟩ = some (.slice A.pa m.places.length A.pc)) (h2 : w.cell? ⟨wp, 2, none⟩ = some (.slice A.ha m.herds.length A.hc)) (hh : RowsAt w A.ha 4 i4c m.herds) :
    Calls Try.prog 75 #[.pointer (some ⟨wp, 0, none⟩), .int .i64 h, .int .i64 n] w (fun e w' => e = .returned (.bool (fromP m h n)) ∧ Below w.heap.size w w') := by
  have H1 := Lib.hid (fun W (hc : W.cell? ⟨wp, 2, none⟩ = some (.slice A.ha m.herds.length A.hc)) => m_isHerd wp m A none 0 0 0 h W hl.herds hc)
  have HR : Hid (fromP m h n = (herdB m h && inB n (startI m h) (m.places.length - 1))) := rfl
  have hp1 := hl.places
  have hp2 := hl.herds
  have hp3 : (m.places.length : Int) ≤ 40 := by omega
  generalize fromP m h n = R at *
  cases h1 : herdB m h
  · rw [h1] at H1 HR
    go_enter Try.func75, Try.ntmps75
    go_wp2_with fail
    refine Ord.wp_region [(0, 0), (1, 0), (2, 0), (3, 0), (4, 0), (5, 0), (6, 0), (7, 0), (8, 0), (9, 0), (10, 0), (11, 0), (12, 0), (13, 0), (14, 0), (15, 0), (16, 0), (17, 0), (18, 0), (19, 0), (20, 0), (21, 0), (22, 0), (23, 0)] (fun _ => True) (by kernel_rfl) (by kernel_rfl) (fun c a d v w h => by cases d <;> exact h) trivial ?_
    go_wp2_with (first
      | ((with_reducible refine Ord.at_wild ?_); refine Ord.walk_skip rfl rfl (fun K hK => ?_)) | ((with_reducible refine Ord.at_eff ?_); refine Ord.walk_skip rfl rfl (fun K hK => ?_))
      | ((with_reducible refine Ord.at_calm ?_); refine Ord.calm_skip rfl ?_ (fun K hK => ?_); (focus (simp [Region.wanted, yielded]; done))) | with_reducible refine Ord.walk_calm rfl rfl (fun K hK => ?_) | ((with_reducible refine Ord.at_wild ?_); refine Ord.wild_fieldAddr rfl rfl (fun W => by simp [go_sem]; rfl) (fun K hK => ?_)) | ((with_reducible refine Ord.at_wild ?_); refine Ord.wild_move rfl rfl (fun K hK => ?_)) | ((with_reducible refine Ord.at_wild ?_); refine Ord.wild_nilCheck rfl rfl (fun K hK => ?_)) | with_reducible refine Ord.walk_eff rfl (by first | (simp; done) | assumption | (go_simp; done) | (repeat (first | assumption | exact Below.refl _ _ | refine Below.drew ?_ | refine Below.alloc ?_ (by first | omega | (simp; done) | (simp; omega)) _ | refine Below.setCell ?_ (by first | omega | (simp; done) | (simp; omega)) _ | refine Below.trans ?_ (Below.mono (by assumption) (by first | omega | (simp; done) | (simp; omega)))))) (fun K hK => ?_) | with_reducible refine Ord.at_fork ?_ ?_ | with_reducible refine Ord.walk_nil ?_ | (with_reducible refine Ord.next_of (by first | (simp; done) | (go_simp; done) | (repeat (first | assumption | exact Below.refl _ _ | refine Below.drew ?_ | refine Below.alloc ?_ (by first | omega | (simp; done) | (simp; omega)) _ | refine Below.setCell ?_ (by first | omega | (simp; done) | (simp; omega)) _ | refine Below.trans ?_ (Below.mono (by assumption) (by first | omega | (simp; done) | (simp; omega)))))) (fun _ => ?_))
      | ((with_reducible refine Ord.at_calm ?_); refine Ord.calm_call rfl (fun W => Try.call44 _ W) (H1.out _ (by assumption)) (fun K hK => ?_)) | ((with_reducible refine Ord.at_wild ?_); refine Ord.wild_call rfl (fun W => Try.call44 _ W) (fun W hW => H1.out _ (by assumption)) (fun K hK => ?_)))
    go_ret
    exact ⟨by rw [HR.out]; rfl, (Below.refl _ _).drew⟩
  · have h1' := inB_of h1
    obtain ⟨i, rfl⟩ : ∃ i : Nat, h = (i : Int) := ⟨h.toNat, by omega⟩
    have hi : i < m.herds.length := by omega
    have hii : (i : Int) < (m.herds.length : Int) := by omega
    have hs : startI m (i : Int) = m.herds[i].1 := by unfold startI; simp [hi]
    obtain ⟨gb, go, e0, e1, -⟩ := hh.get4 hi
    rw [h1] at H1 HR
    rw [hs] at HR
    rcases A with ⟨pa, pc, la, lc, ha, hc, sa, sc⟩
    simp only at e0
    subst e0
    simp only at *
    generalize m.herds[i].1 = st at *
    clear hs h1 h1' hh
    go_enter Try.func75, Try.ntmps75
    go_wp2_with fail
    refine Ord.wp_region [(0, 0), (1, 0), (2, 0), (3, 0), (4, 0), (5, 0), (6, 0), (7, 0), (8, 0), (9, 0), (10, 0), (11, 0), (12, 0), (13, 0), (14, 0), (15, 0), (16, 0), (17, 0), (18, 0), (19, 0), (20, 0), (21, 0), (22, 0), (23, 0)] (fun _ => True) (by kernel_rfl) (by kernel_rfl) (fun c a d v w h => by cases d <;> exact h) trivial ?_
    go_wp2_with (first
      | ((with_reducible refine Ord.at_calm ?_); refine Ord.calm_skip rfl ?_ (fun K hK => ?_); (focus (simp [Region.wanted, yielded]; done))) | with_reducible refine Ord.walk_calm rfl rfl (fun K hK => ?_) | ((with_reducible refine Ord.at_wild ?_); refine Ord.wild_fieldAddr rfl rfl (fun W => by simp [go_sem]; rfl) (fun K hK => ?_)) | ((with_reducible refine Ord.at_wild ?_); refine Ord.wild_move rfl rfl (fun K hK => ?_)) | ((with_reducible refine Ord.at_wild ?_); refine Ord.wild_nilCheck rfl rfl (fun K hK => ?_)) | with_reducible refine Ord.walk_eff rfl (by first | (simp; done) | assumption | (go_simp; done) | (repeat (first | assumption | exact Below.refl _ _ | refine Below.drew ?_ | refine Below.alloc ?_ (by first | omega | (simp; done) | (simp; omega)) _ | refine Below.setCell ?_ (by first | omega | (simp; done) | (simp; omega)) _ | refine Below.trans ?_ (Below.mono (by assumption) (by first | omega | (simp; done) | (simp; omega)))))) (fun K hK => ?_) | with_reducible refine Ord.at_fork ?_ ?_ | with_reducible refine Ord.walk_nil ?_ | (with_reducible refine Ord.next_of (by first | (simp; done) | (go_simp; done) | (repeat (first | assumption | exact Below.refl _ _ | refine Below.drew ?_ | refine Below.alloc ?_ (by first | omega | (simp; done) | (simp; omega)) _ | refine Below.setCell ?_ (by first | omega | (simp; done) | (simp; omega)) _ | refine Below.trans ?_ (Below.mono (by assumption) (by first | omega | (simp; done) | (simp; omega)))))) (fun _ => ?_))
      | ((with_reducible refine Ord.at_calm ?_); refine Ord.calm_call rfl (fun W => Try.call44 _ W) (H1.out _ (by assumption)) (fun K hK => ?_)) | ((with_reducible refine Ord.at_wild ?_); refine Ord.wild_call rfl (fun W => Try.call44 _ W) (fun W hW => H1.out _ (by assumption)) (fun K hK => ?_))
      | ((with_reducible refine Ord.at_calm ?_); refine Ord.calm_call rfl (fun W => Try.call93 _ W) (m_within _ _ _ _) (fun K hK => ?_)) | ((with_reducible refine Ord.at_wild ?_); refine Ord.wild_call rfl (fun W => Try.call93 _ W) (fun W hW => m_within _ _ _ _) (fun K hK => ?_)))
    go_ret
    exact ⟨by rw [HR.out]; rfl, (Below.refl _ _).drew⟩
end Go.Proofs.Yteeinehpneppnaa
