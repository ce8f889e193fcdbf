/- Parts of a proof: OrdE. -/
import Derived.Test.YtjbjmoghloabpaaP05
set_option linter.unusedVariables false
set_option linter.unusedSimpArgs false
namespace Go.Ord.Two
variable {P : Program} {ops : Array Oper} {Q : Exit → Act → World → Prop} {H : World → Prop} {hold : Nat → Bool}

/-- One operation comes up: an effect, or a read. -/
def op (P : Program) (ops : Array Oper) (eff hold : Nat → Bool) (H : World → Prop) (Q : Exit → Act → World → Prop) (i : Nat) (K : Act → World → Prop) (a : Act) (w : World) : Prop :=
  match ops[i]? with
  | none => K a w
  | some o => if Region.wanted o (yielded ops a.tmps) then
      (if eff i then o.wp P a w (fun a' w' => (hold i = true → H w') ∧ K a' w') Q ∨ (o.asks P a w ∧ LetsOut Q)
       else ∃ v, yields P o a w v ∧ K (a.put o.dst v) w)
    else K (a.put o.dst undef) w

variable {eff : Nat → Bool}


theorem op_mono {i : Nat} {a : Act} {w : World} {K K' : Act → World → Prop} (h : ∀ a w, K a w → K' a w) (hh : op P ops eff hold H Q i K a w) : op P ops eff hold H Q i K' a w := by
  unfold op at *
  split
  · rename_i ho; simp only [ho] at hh; exact h _ _ hh
  · rename_i o ho
    simp only [ho] at hh
    split
    · rename_i hw
      simp only [hw, if_true] at hh
      split
      · rename_i he
        simp only [he, if_true] at hh
        exact hh.imp (Oper.wp_mono (fun a w ⟨h1, h2⟩ => ⟨h1, h _ _ h2⟩)) id
      · rename_i he
        simp only [he] at hh
        obtain ⟨v, h1, h2⟩ := hh
        exact ⟨v, h1, h _ _ h2⟩
    · rename_i hw; simp only [hw] at hh; exact h _ _ hh

/-- Whatever order. -/
def any (P : Program) (ops : Array Oper) (eff hold : Nat → Bool) (H : World → Prop) (Q : Exit → Act → World → Prop) : Nat → Array Bool → Act → World → Prop
  | 0, listed, a, w => Region.ready .any ops listed = [] ∧ Q .normal a w
  | fuel + 1, listed, a, w =>
    (Region.ready .any ops listed = [] → Q .normal a w) ∧
    ∀ i ∈ Region.ready .any ops listed, op P ops eff hold H Q i (any P ops eff hold H Q fuel (listed.setIfInBounds i true)) a w

theorem wpOp_of_op {i : Nat} {K K' : Act → World → Prop} {a : Act} {w : World} (h : ∀ a w, K a w → K' a w) (hh : op P ops eff hold H Q i K a w) : wpOp P ops Q i K' a w := by
  unfold op at hh
  unfold wpOp
  split
  · rename_i ho; simp only [ho] at hh; exact h _ _ hh
  · rename_i o ho
    simp only [ho] at hh
    split
    · rename_i hw
      simp only [hw, if_true] at hh
      split at hh
      · exact hh.imp (Oper.wp_mono (fun a w hk => h _ _ hk.2)) id
      · left
        obtain ⟨v, h1, h2⟩ := hh
        unfold yields at h1
        unfold Oper.wp
        generalize (execOp a.eval o).run P w = r at *
        cases r with
        | ok n w' =>
          cases n <;> simp only [yieldUpon] at h1 <;> simp only [Oper.upon]
          case value u => obtain ⟨rfl, rfl⟩ := h1; exact h _ _ h2
          case skip => obtain ⟨rfl, rfl⟩ := h1; exact h _ _ h2
          case enter f args =>
            obtain ⟨rfl, h3⟩ := h1
            refine h3.mono fun e w'' hk => ?_
            obtain ⟨rfl, rfl⟩ := hk
            exact h _ _ h2
        | halt x w' => simp only [yieldUpon] at h1
    · rename_i hw; simp only [hw] at hh; exact h _ _ hh

theorem wpAny_of_any : ∀ (fuel : Nat) (listed : Array Bool) (a : Act) (w : World), any P ops eff hold H Q fuel listed a w → wpAny P .any ops Q fuel listed a w
  | 0, _, _, _, h => h
  | fuel + 1, _, _, _, h => ⟨h.1, fun i hi => wpOp_of_op (fun a w => wpAny_of_any fuel _ a w) (h.2 i hi)⟩

variable {C : World → Prop}
theorem Yl_op {eff : Nat → Bool} {i : Nat} {o : Oper} {v : Value} {a : Act} {w : World} (hi : ops[i]? = some o) (he : eff i = false) (hw : C w) (hy : Yl P ops C o v a) {K : Act → World → Prop} (h : K (a.put o.dst v) w) :
    op P ops eff hold H Q i K a w := by
  unfold op
  simp only [hi]
  rcases hy with ⟨h1, h2⟩ | ⟨h1, rfl⟩
  · simp only [h1, if_true, he, Bool.false_eq_true, if_false]; exact ⟨v, h2 w hw, h⟩
  · simp only [h1, Bool.false_eq_true, if_false]; exact h

/-- One operation oj, apart from a read oi, before it. -/
theorem op_put {j : Nat} {oi oj : Oper} {v : Value} (hj : ops[j]? = some oj) (hap : oi.apart ops oj = true)
    (hsi : ∀ cs b, oi.op ≠ .select cs b) (hsj : ∀ cs b, oj.op ≠ .select cs b) (hQ : ∀ c a w, Q (.panic c) (a.put oi.dst v) w → Q (.panic c) a w) {K : Act → World → Prop} {a : Act} {w : World}
    (hy : Yl P ops C oi v a) (h : op P ops eff hold H Q j K (a.put oi.dst v) w) :
    op P ops eff hold H Q j (fun a' w' => Yl P ops C oi v a' ∧ K (a'.put oi.dst v) w') a w := by
  obtain ⟨h1, h2, h3⟩ := Oper.apart_spec hap
  have keep : ∀ (a : Act), Yl P ops C oi v a → ∀ u, Yl P ops C oi v (a.put oj.dst u) := fun a hy u =>
    hy.of_same (execOp_put oi hsi a oj.dst u h3) (wanted_put oi a oj.dst u h3)
  unfold op at *
  simp only [hj] at *
  rw [wanted_put oj a oi.dst v h1] at h
  split
  · rename_i hw
    simp only [hw, if_true] at h
    split
    · rename_i he
      simp only [he, if_true] at h
      refine h.imp (fun h => ?_) (fun h => ⟨by have := h.1; unfold Oper.asks at *; rwa [execOp_put oj hsj a oi.dst v h1] at this, h.2⟩)
      unfold Oper.wp at *
      rw [execOp_put oj hsj a oi.dst v h1] at h
      generalize (execOp a.eval oj).run P w = r at *
      cases r with
      | ok n w' =>
        cases n <;> simp only [Oper.upon] at h ⊢
        case value u => exact ⟨h.1, keep a hy u, by rw [← Act.put_comm a v u h2]; exact h.2⟩
        case skip => exact ⟨h.1, keep a hy _, by rw [← Act.put_comm a v undef h2]; exact h.2⟩
        case defer d =>
          refine ⟨h.1, ?_, ?_⟩
          · have hd : Yl P ops C oi v { a with defers := d :: a.defers } := hy
            exact keep _ hd _
          · have h4 := h.2
            rw [Act.put_defers, Act.put_comm _ v undef h2] at h4
            exact h4
        case enter f args =>
          refine Calls.mono h fun e w'' hk => ?_
          cases e with
          | returned u => exact ⟨hk.1, keep a hy u, by rw [← Act.put_comm a v u h2]; exact hk.2⟩
          | panicked c => exact hQ _ _ _ hk
          | outgrown => exact hk
        case row row args => exact Rows.mono h fun u w'' hk => ⟨hk.1, keep a hy u, by rw [← Act.put_comm a v u h2]; exact hk.2⟩
      | halt x w' =>
        cases x <;> simp only [Oper.upon] at h ⊢
        case panic u => exact hQ _ _ _ h
    · rename_i he
      simp only [he] at h
      obtain ⟨u, hu, hn⟩ := h
      refine ⟨u, ?_, keep a hy u, by rw [← Act.put_comm a v u h2]; exact hn⟩
      unfold yields at *
      rwa [execOp_put oj hsj a oi.dst v h1] at hu
  · rename_i hw
    simp only [hw] at h
    exact ⟨keep a hy _, by rw [← Act.put_comm a v undef h2]; exact h⟩

/-- A read that yields its value in every world of the region's class may be taken first. -/
theorem any_first {L : Array Bool} {i : Nat} {oi : Oper} {v : Value} (hi : ops[i]? = some oi) (he : eff i = false) (hsel : ∀ (j : Nat) (o : Oper) cs b, ops[j]? = some o → o.op ≠ .select cs b)
    (hQ : ∀ c a w, Q (.panic c) (a.put oi.dst v) w → Q (.panic c) a w) :
    ∀ (fuel : Nat) (listed : Array Bool) (a : Act) (w : World), H w → Calm ops (fun j => eff j && !hold j) i L listed →
      (∀ j oj, ops[j]? = some oj → j ≠ i → listed.getD j true = false → (∀ e ∈ oj.after, Region.binds .any e = true → e.on ≠ i) → oi.apart ops oj = true) →
      i ∈ Region.ready .any ops listed → Yl P ops H oi v a →
      any P ops eff hold H Q fuel (listed.setIfInBounds i true) (a.put oi.dst v) w → any P ops eff hold H Q (fuel + 1) listed a w := by
  intro fuel
  induction fuel with
  | zero =>
    intro listed a w hw _ _ hr hy h
    refine ⟨fun h0 => (by rw [h0] at hr; cases hr), fun j hj => ?_⟩
    by_cases hji : j = i
    · subst hji; exact Yl_op hi he hw hy h
    · have := ready_mono hj hji
      rw [h.1] at this
      cases this
  | succ fuel ih =>
    intro listed a w hw hc hfree hr hy h
    refine ⟨fun h0 => (by rw [h0] at hr; cases hr), fun j hj => ?_⟩
    by_cases hji : j = i
    · subst hji; exact Yl_op hi he hw hy h
    · have h1 := h.2 j (ready_mono hj hji)
      obtain ⟨hjun, oj, hoj, hall⟩ := mem_ready.1 hj
      obtain ⟨hej, hLj⟩ := hc.read hj hji
      have hnot := ready_ne hr hoj hall
      have h2 := op_put hoj (hfree j oj hoj hji hjun hnot) (fun cs b => hsel i oi cs b hi) (fun cs b => hsel j oj cs b hoj) hQ hy h1
      have hfree' : ∀ k ok, ops[k]? = some ok → k ≠ i → (listed.setIfInBounds j true).getD k true = false →
          (∀ e ∈ ok.after, Region.binds .any e = true → e.on ≠ i) → oi.apart ops ok = true := fun k ok hk hki hun hno => by
        refine hfree k ok hk hki ?_ hno
        by_cases hjk : j = k
        · subst hjk; exact hjun
        · rw [getD_set_ne true hjk] at hun; exact hun
      have hH : op P ops eff hold H Q j (fun a' w' => H w' ∧ Yl P ops H oi v a' ∧ any P ops eff hold H Q fuel ((listed.setIfInBounds i true).setIfInBounds j true) (a'.put oi.dst v) w') a w := by
        revert h2
        unfold op
        simp only [hoj]
        intro h2
        split
        · rename_i hwt
          simp only [hwt, if_true] at h2
          split
          · rename_i hef
            simp only [hef, if_true] at h2
            exact h2.imp (Oper.wp_mono (fun a w hk => ⟨fun _ => hk.1 (by simpa [hef] using hej), hk.1 (by simpa [hef] using hej), hk.2⟩)) id
          · rename_i hef
            simp only [hef] at h2
            obtain ⟨u, h3, h4⟩ := h2
            exact ⟨u, h3, hw, h4⟩
        · rename_i hwt
          simp only [hwt] at h2
          exact ⟨hw, h2⟩
      refine op_mono (fun a' w' h3 => ih (listed.setIfInBounds j true) a' w' h3.1 (hc.set hLj) hfree' (ready_mono hr (Ne.symm hji)) h3.2.1 ?_) hH
      rw [Array.setIfInBounds_comm _ _ hji]
      exact h3.2.2

/-- A read before which no effect can come up may be taken first: its value is asked in this world alone. -/
theorem any_calm {i : Nat} {oi : Oper} {v : Value} {w : World} {L : Array Bool} (hi : ops[i]? = some oi) (he : eff i = false) (hsel : ∀ (j : Nat) (o : Oper) cs b, ops[j]? = some o → o.op ≠ .select cs b)
    (hQ : ∀ c a w, Q (.panic c) (a.put oi.dst v) w → Q (.panic c) a w) :
    ∀ (fuel : Nat) (listed : Array Bool) (a : Act), Calm ops eff i L listed →
      (∀ j oj, ops[j]? = some oj → j ≠ i → listed.getD j true = false → (∀ e ∈ oj.after, Region.binds .any e = true → e.on ≠ i) → oi.apart ops oj = true) →
      i ∈ Region.ready .any ops listed → Yl P ops (· = w) oi v a →
      any P ops eff hold H Q fuel (listed.setIfInBounds i true) (a.put oi.dst v) w → any P ops eff hold H Q (fuel + 1) listed a w := by
  intro fuel
  induction fuel with
  | zero =>
    intro listed a _ _ hr hy h
    refine ⟨fun h0 => (by rw [h0] at hr; cases hr), fun j hj => ?_⟩
    by_cases hji : j = i
    · subst hji; exact Yl_op (C := (· = w)) hi he rfl hy h
    · have := ready_mono hj hji
      rw [h.1] at this
      cases this
  | succ fuel ih =>
    intro listed a hc hfree hr hy h
    refine ⟨fun h0 => (by rw [h0] at hr; cases hr), fun j hj => ?_⟩
    by_cases hji : j = i
    · subst hji; exact Yl_op (C := (· = w)) hi he rfl hy h
    · have h1 := h.2 j (ready_mono hj hji)
      obtain ⟨hej, hLj⟩ := hc.read hj hji
      obtain ⟨hjun, oj, hoj, hall⟩ := mem_ready.1 hj
      have hnot := ready_ne hr hoj hall
      have h2 := op_put hoj (hfree j oj hoj hji hjun hnot) (fun cs b => hsel i oi cs b hi) (fun cs b => hsel j oj cs b hoj) hQ hy h1
      have hfree' : ∀ k ok, ops[k]? = some ok → k ≠ i → (listed.setIfInBounds j true).getD k true = false →
          (∀ e ∈ ok.after, Region.binds .any e = true → e.on ≠ i) → oi.apart ops ok = true := fun k ok hk hki hun hno => by
        refine hfree k ok hk hki ?_ hno
        by_cases hjk : j = k
        · subst hjk; exact hjun
        · rw [getD_set_ne true hjk] at hun; exact hun
      have hH : op P ops eff hold H Q j (fun a' w' => w' = w ∧ Yl P ops (· = w) oi v a' ∧ any P ops eff hold H Q fuel ((listed.setIfInBounds i true).setIfInBounds j true) (a'.put oi.dst v) w') a w := by
        revert h2
        unfold op
        simp only [hoj, hej, Bool.false_eq_true, if_false]
        intro h2
        split
        · rename_i hwt
          simp only [hwt, if_true] at h2
          obtain ⟨u, h3, h4⟩ := h2
          exact ⟨u, h3, trivial, h4⟩
        · rename_i hwt
          simp only [hwt] at h2
          exact ⟨trivial, h2⟩
      refine op_mono (fun a' w' h3 => ?_) hH
      obtain ⟨rfl, h4, h5⟩ := h3
      refine ih (listed.setIfInBounds j true) a' (hc.set hLj) hfree' (ready_mono hr (Ne.symm hji)) h4 ?_
      rw [Array.setIfInBounds_comm _ _ hji]
      exact h5


/-- A read that yields its value in every world may be taken first. -/
theorem any_free {eff : Nat → Bool} {i : Nat} {oi : Oper} {v : Value} (hi : ops[i]? = some oi) (he : eff i = false) (hsel : ∀ (j : Nat) (o : Oper) cs b, ops[j]? = some o → o.op ≠ .select cs b)
    (hQ : ∀ c a w, Q (.panic c) (a.put oi.dst v) w → Q (.panic c) a w) :
    ∀ (fuel : Nat) (listed : Array Bool) (a : Act) (w : World),
      (∀ j oj, ops[j]? = some oj → j ≠ i → listed.getD j true = false → (∀ e ∈ oj.after, Region.binds .any e = true → e.on ≠ i) → oi.apart ops oj = true) →
      i ∈ Region.ready .any ops listed → Yl P ops (fun _ => True) oi v a →
      any P ops eff hold H Q fuel (listed.setIfInBounds i true) (a.put oi.dst v) w → any P ops eff hold H Q (fuel + 1) listed a w := by
  intro fuel
  induction fuel with
  | zero =>
    intro listed a w _ hr hy h
    refine ⟨fun h0 => (by rw [h0] at hr; cases hr), fun j hj => ?_⟩
    by_cases hji : j = i
    · subst hji; exact Yl_op (C := fun _ => True) hi he trivial hy h
    · have := ready_mono hj hji
      rw [h.1] at this
      cases this
  | succ fuel ih =>
    intro listed a w hfree hr hy h
    refine ⟨fun h0 => (by rw [h0] at hr; cases hr), fun j hj => ?_⟩
    by_cases hji : j = i
    · subst hji; exact Yl_op (C := fun _ => True) hi he trivial hy h
    · have h1 := h.2 j (ready_mono hj hji)
      obtain ⟨hjun, oj, hoj, hall⟩ := mem_ready.1 hj
      have hnot := ready_ne hr hoj hall
      have h2 := op_put hoj (hfree j oj hoj hji hjun hnot) (fun cs b => hsel i oi cs b hi) (fun cs b => hsel j oj cs b hoj) hQ hy h1
      have hfree' : ∀ k ok, ops[k]? = some ok → k ≠ i → (listed.setIfInBounds j true).getD k true = false →
          (∀ e ∈ ok.after, Region.binds .any e = true → e.on ≠ i) → oi.apart ops ok = true := fun k ok hk hki hun hno => by
        refine hfree k ok hk hki ?_ hno
        by_cases hjk : j = k
        · subst hjk; exact hjun
        · rw [getD_set_ne true hjk] at hun; exact hun
      refine op_mono (fun a' w' h3 => ih (listed.setIfInBounds j true) a' w' hfree' (ready_mono hr (Ne.symm hji)) h3.1 ?_) h2
      rw [Array.setIfInBounds_comm _ _ hji]
      exact h3.2
def ok1 (ops : Array Oper) (eff hold : Nat → Bool) (k c : Nat) (listed : Array Bool) : Bool :=
  if eff k then c == 2 && hold k && decide (Region.ready .any ops listed = [k])
  else decide (c < 2) && (Region.ready .any ops listed).contains k && Region.free .any ops listed k && (if c == 1 then calm ops (fun j => eff j && !hold j) k listed else calm ops eff k listed)
/-- The order that is walked first: reads, and effects that keep what the reads read. -/
def plan1 (ops : Array Oper) (eff hold : Nat → Bool) : List (Nat × Nat) → Array Bool → Option (Array Bool)
  | [], listed => some listed
  | (k, c) :: l, listed => if ok1 ops eff hold k c listed = true then plan1 ops eff hold l (listed.setIfInBounds k true) else none
/-- What is walked behind it: no reads among effects. -/
def plan2 (ops : Array Oper) (eff hold : Nat → Bool) : List (Nat × Nat) → Array Bool → Bool
  | [], listed => (Region.ready .any ops listed).isEmpty
  | (k, c) :: l, listed =>
    (if eff k then c == 2 && !hold k && decide (Region.ready .any ops listed = [k])
     else decide (c < 2) && (Region.ready .any ops listed).contains k && Region.free .any ops listed k && (c == 1 || calm ops eff k listed)) &&
    plan2 ops eff hold l (listed.setIfInBounds k true)
def isEff (l : List (Nat × Nat)) (i : Nat) : Bool := l.any fun (k, c) => k == i && c == 2
def planOk (ops : Array Oper) (l1 l2 : List (Nat × Nat)) : Bool :=
  Region.noSelect ops && l1.length + l2.length == ops.size &&
  match plan1 ops (isEff (l1 ++ l2)) (isEff l1) l1 (Array.replicate ops.size false) with
  | none => false
  | some L => plan2 ops (isEff (l1 ++ l2)) (isEff l1) l2 L
variable {eff : Nat → Bool}
theorem wp_qn {o : Oper} {a : Act} {w : World} {K R : Act → World → Prop} (h : o.wp P a w K (Qn Q R)) : o.wp P a w K Q := by
  unfold Oper.wp at *
  generalize (execOp a.eval o).run P w = r at *
  cases r with
  | ok x w' => cases x <;> simp only [Oper.upon] at h ⊢ <;> exact h
  | halt x w' => cases x <;> simp only [Oper.upon] at h ⊢ <;> exact h
theorem any_of_walk2 (hs : Region.noSelect ops = true) (hQ : ∀ c a d v w, Q (.panic c) (a.put d v) w → Q (.panic c) a w) : ∀ (l : List (Nat × Nat)) (listed : Array Bool) (a : Act) (w : World), listed.size = ops.size →
    plan2 ops eff hold l listed = true → walk P ops (fun _ => True) Q l a w → any P ops eff hold H Q l.length listed a w
  | [], _, _, _, _, hB, h => ⟨by simpa [plan2] using hB, h⟩
  | (k, c) :: l, listed, a, w, hsz, hB, h => by
    rw [plan2, Bool.and_eq_true] at hB
    obtain ⟨hB, hB'⟩ := hB
    rw [walk] at h
    cases ho : ops[k]? with
    | none => simp only [ho] at h
    | some o =>
      simp only [ho] at h
      have hsz' : (listed.setIfInBounds k true).size = ops.size := by simp [hsz]
      have ih : ∀ a w, walk P ops (fun _ => True) Q l a w → any P ops eff hold H Q l.length (listed.setIfInBounds k true) a w := fun a w h2 => any_of_walk2 hs hQ l _ a w hsz' hB' h2
      cases he : eff k with
      | true =>
        simp only [he, if_true, Bool.and_eq_true, beq_iff_eq, decide_eq_true_eq, Bool.not_eq_true'] at hB
        obtain ⟨⟨rfl, hh⟩, hr⟩ := hB
        refine ⟨fun h0 => (by rw [h0] at hr; cases hr), fun j hj => ?_⟩
        rw [hr] at hj
        have hjk : j = k := by simpa using hj
        subst hjk
        unfold op
        simp only [ho, he, if_true]
        split
        · rename_i hwt
          simp only [hwt, if_true] at h
          exact h.imp (Oper.wp_mono (fun a w hk => ⟨fun e => (by rw [hh] at e; cases e), ih a w hk.2⟩)) id
        · rename_i hwt
          simp only [hwt] at h
          exact ih _ _ h
      | false =>
        simp only [he, Bool.false_eq_true, if_false, Bool.and_eq_true, Bool.or_eq_true, beq_iff_eq, decide_eq_true_eq] at hB
        obtain ⟨⟨⟨hc2, hr⟩, hf⟩, hcc⟩ := hB
        have hr' : k ∈ Region.ready .any ops listed := by simpa using hr
        by_cases hwt : Region.wanted o (yielded ops a.tmps) = true
        · simp only [hwt, if_true] at h
          match c, hc2, h with
          | 0, _, h =>
            obtain ⟨v, h1, h2⟩ := h
            obtain ⟨L, hL⟩ := calm_spec hsz (hcc.resolve_left (by simp))
            exact any_calm ho he (Region.noSelect_spec hs) (fun c a w => hQ c a _ _ w) l.length listed a hL (Region.free_spec ho hf) hr' (.inl ⟨hwt, fun w' e => by subst e; exact h1⟩) (ih _ _ h2)
          | 1, _, h =>
            obtain ⟨v, h1, h2⟩ := h
            exact any_free ho he (Region.noSelect_spec hs) (fun c a w => hQ c a _ _ w) l.length listed a w (Region.free_spec ho hf) hr' (.inl ⟨hwt, h1⟩) (ih _ _ h2)
          | (n + 2), hc2, _ => exact absurd hc2 (by omega)
        · have hwt' : Region.wanted o (yielded ops a.tmps) = false := by simpa using hwt
          simp only [hwt', Bool.false_eq_true, if_false] at h
          exact any_free ho he (Region.noSelect_spec hs) (fun c a w => hQ c a _ _ w) l.length listed a w (Region.free_spec ho hf) hr' (.inr ⟨hwt', rfl⟩) (ih _ _ h)
theorem any_of_walk1 {R : Act → World → Prop} {m : Nat} {LL : Array Bool} (hs : Region.noSelect ops = true) (hQ : ∀ c a d v w, Q (.panic c) (a.put d v) w → Q (.panic c) a w)
    (hR : ∀ a w, R a w → any P ops eff hold H Q m LL a w) : ∀ (l : List (Nat × Nat)) (listed : Array Bool) (a : Act) (w : World), listed.size = ops.size → H w →
    plan1 ops eff hold l listed = some LL → walk P ops H (Qn Q R) l a w → any P ops eff hold H Q (l.length + m) listed a w
  | [], listed, a, w, _, hw, hB, h => by
    simp only [plan1, Option.some.injEq] at hB
    subst hB
    simp only [List.length_nil, Nat.zero_add]
    exact hR a w h
  | (k, c) :: l, listed, a, w, hsz, hw, hB, h => by
    rw [plan1] at hB
    split at hB
    · rename_i hb
      unfold ok1 at hb
      rw [walk] at h
      cases ho : ops[k]? with
      | none => simp only [ho] at h
      | some o =>
        simp only [ho] at h
        have hsz' : (listed.setIfInBounds k true).size = ops.size := by simp [hsz]
        have ih : ∀ a w, H w → walk P ops H (Qn Q R) l a w → any P ops eff hold H Q (l.length + m) (listed.setIfInBounds k true) a w := fun a w h1 h2 => any_of_walk1 hs hQ hR l _ a w hsz' h1 hB h2
        have hlen : ((k, c) :: l).length + m = l.length + m + 1 := by simp; omega
        rw [hlen]
        cases he : eff k with
        | true =>
          simp only [he, if_true, Bool.and_eq_true, beq_iff_eq, decide_eq_true_eq] at hb
          obtain ⟨⟨rfl, hh⟩, hr⟩ := hb
          refine ⟨fun h0 => (by rw [h0] at hr; cases hr), fun j hj => ?_⟩
          rw [hr] at hj
          have hjk : j = k := by simpa using hj
          subst hjk
          unfold op
          simp only [ho, he, if_true]
          split
          · rename_i hwt
            simp only [hwt, if_true] at h
            refine h.imp (fun h => Oper.wp_mono (fun a w hk => ⟨fun _ => hk.1, ih a w hk.1 hk.2⟩) (wp_qn h)) id
          · rename_i hwt
            simp only [hwt] at h
            exact ih _ _ hw h
        | false =>
          simp only [he, Bool.false_eq_true, if_false, Bool.and_eq_true, decide_eq_true_eq] at hb
          obtain ⟨⟨⟨hc2, hr⟩, hf⟩, hcc⟩ := hb
          have hr' : k ∈ Region.ready .any ops listed := by simpa using hr
          have hc01 : c = 0 ∨ c = 1 := by omega
          by_cases hwt : Region.wanted o (yielded ops a.tmps) = true
          · simp only [hwt, if_true] at h
            rcases hc01 with rfl | rfl
            · simp only at h hcc
              obtain ⟨v, h1, h2⟩ := h
              obtain ⟨L, hL⟩ := calm_spec hsz (by simpa using hcc)
              exact any_calm ho he (Region.noSelect_spec hs) (fun c a w => hQ c a _ _ w) (l.length + m) listed a hL (Region.free_spec ho hf) hr' (.inl ⟨hwt, fun w' e => by subst e; exact h1⟩) (ih _ _ hw h2)
            · simp only at h hcc
              obtain ⟨v, h1, h2⟩ := h
              obtain ⟨L, hL⟩ := calm_spec hsz (by simpa using hcc)
              exact any_first ho he (Region.noSelect_spec hs) (fun c a w => hQ c a _ _ w) (l.length + m) listed a w hw hL (Region.free_spec ho hf) hr' (.inl ⟨hwt, h1⟩) (ih _ _ hw h2)
          · have hwt' : Region.wanted o (yielded ops a.tmps) = false := by simpa using hwt
            simp only [hwt', Bool.false_eq_true, if_false] at h
            rcases hc01 with rfl | rfl
            · obtain ⟨L, hL⟩ := calm_spec hsz (by simpa using hcc)
              exact any_calm ho he (Region.noSelect_spec hs) (fun c a w => hQ c a _ _ w) (l.length + m) listed a hL (Region.free_spec ho hf) hr' (.inr ⟨hwt', rfl⟩) (ih _ _ hw h)
            · obtain ⟨L, hL⟩ := calm_spec hsz (by simpa using hcc)
              exact any_first ho he (Region.noSelect_spec hs) (fun c a w => hQ c a _ _ w) (l.length + m) listed a w hw hL (Region.free_spec ho hf) hr' (.inr ⟨hwt', rfl⟩) (ih _ _ hw h)
    · cases hB
/-- A region that draws its order, in two parts: behind the first one no read is among effects. -/
theorem wp_region {id : Nat} {a : Act} {w : World} {lo : List Oper} (l1 l2 : List (Nat × Nat)) (H : World → Prop) (hm : P.follows .mixedOrders = true) (hp : planOk lo.toArray l1 l2 = true)
    (hQ : ∀ c a d v w, Q (.panic c) (a.put d v) w → Q (.panic c) a w) (hH : H w.drew) (h : walk P lo.toArray H (Qn Q (walk P lo.toArray (fun _ => True) Q l2)) l1 a w.drew) : (Code.region id lo.toArray true).wp P Q a w := by
  simp only [planOk, Bool.and_eq_true, beq_iff_eq] at hp
  obtain ⟨⟨hs, hl⟩, hp⟩ := hp
  split at hp
  · cases hp
  · rename_i L hL
    refine wp_region_any hm (wpAny_of_any (H := H) (eff := isEff (l1 ++ l2)) (hold := isEff l1) _ _ _ _ ?_)
    have hsz : L.size = lo.toArray.size := by
      have : ∀ (l : List (Nat × Nat)) (x y : Array Bool), plan1 lo.toArray (isEff (l1 ++ l2)) (isEff l1) l x = some y → y.size = x.size := by
        intro l
        induction l with
        | nil => intro x y h; simp only [plan1, Option.some.injEq] at h; rw [h]
        | cons p l ih =>
          intro x y h
          rw [plan1] at h
          split at h
          · rw [ih _ _ h]; simp
          · cases h
      rw [this _ _ _ hL]; simp
    have h2 := any_of_walk1 (H := H) (eff := isEff (l1 ++ l2)) (hold := isEff l1) hs hQ (m := l2.length) (fun a w hR => any_of_walk2 hs hQ l2 L a w hsz hp hR) l1 (Array.replicate lo.toArray.size false) a _ (by simp) hH hL h
    rw [hl] at h2
    exact h2
/-- The second part is next. -/
theorem walk_next {a : Act} {w : World} {lo : List Oper} {l2 : List (Nat × Nat)} (h : walk P lo.toArray (fun _ => True) Q l2 a w) : walk P lo.toArray H (Qn Q (walk P lo.toArray (fun _ => True) Q l2)) [] a w := h
end Go.Ord.Two
