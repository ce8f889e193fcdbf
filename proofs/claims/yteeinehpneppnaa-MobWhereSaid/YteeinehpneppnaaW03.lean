/- Parts of a proof: OrdE, BaseB. -/
import Derived.Test.YteeinehpneppnaaW02
import Derived.RangeFuncRecord
import Derived.LoopIn
import Derived.BigFrameIn
/- Drawn regions in which effects behind the last read among them may undo what was read. -/
set_option linter.unusedVariables false
set_option linter.unusedSimpArgs false
namespace Go.Ord.Two
variable {P : Program} {ops : Array Oper} {Q : Exit → Act → World → Prop} {H : World → Prop} {hold : Nat → Bool}

/-- One operation comes up: an effect, or a read. -/
def op (P : Program) (ops : Array Oper) (eff hold : Nat → Bool) (H : World → Prop) (Q : Exit → Act → World → Prop) (i : Nat) (K : Act → World → Prop) (a : Act) (w : World) : Prop :=
  match ops[i]? with
  | none => K a w
  | some o => if Region.wanted o (yielded ops a.tmps) then
      (if eff i then o.wp P a w (fun a' w' => (hold i = true → H w') ∧ K a' w') Q ∨ (o.asks P a w ∧ LetsOut Q)
       else ∃ v, yields P o a w v ∧ K (a.put o.dst v) w)
    else K (a.put o.dst undef) w

variable {eff : Nat → Bool}


theorem op_mono {i : Nat} {a : Act} {w : World} {K K' : Act → World → Prop} (h : ∀ a w, K a w → K' a w) (hh : op P ops eff hold H Q i K a w) : op P ops eff hold H Q i K' a w := by
  unfold op at *
  split
  · rename_i ho; simp only [ho] at hh; exact h _ _ hh
  · rename_i o ho
    simp only [ho] at hh
    split
    · rename_i hw
      simp only [hw, if_true] at hh
      split
      · rename_i he
        simp only [he, if_true] at hh
        exact hh.imp (Oper.wp_mono (fun a w ⟨h1, h2⟩ => ⟨h1, h _ _ h2⟩)) id
      · rename_i he
        simp only [he] at hh
        obtain ⟨v, h1, h2⟩ := hh
        exact ⟨v, h1, h _ _ h2⟩
    · rename_i hw; simp only [hw] at hh; exact h _ _ hh

/-- Whatever order. -/
def any (P : Program) (ops : Array Oper) (eff hold : Nat → Bool) (H : World → Prop) (Q : Exit → Act → World → Prop) : Nat → Array Bool → Act → World → Prop
  | 0, listed, a, w => Region.ready .any ops listed = [] ∧ Q .normal a w
  | fuel + 1, listed, a, w =>
    (Region.ready .any ops listed = [] → Q .normal a w) ∧
    ∀ i ∈ Region.ready .any ops listed, op P ops eff hold H Q i (any P ops eff hold H Q fuel (listed.setIfInBounds i true)) a w

theorem wpOp_of_op {i : Nat} {K K' : Act → World → Prop} {a : Act} {w : World} (h : ∀ a w, K a w → K' a w) (hh : op P ops eff hold H Q i K a w) : wpOp P ops Q i K' a w := by
  unfold op at hh
  unfold wpOp
  split
  · rename_i ho; simp only [ho] at hh; exact h _ _ hh
  · rename_i o ho
    simp only [ho] at hh
    split
    · rename_i hw
      simp only [hw, if_true] at hh
      split at hh
      · exact hh.imp (Oper.wp_mono (fun a w hk => h _ _ hk.2)) id
      · left
        obtain ⟨v, h1, h2⟩ := hh
        unfold yields at h1
        unfold Oper.wp
        generalize (execOp a.eval o).run P w = r at *
        cases r with
        | ok n w' =>
          cases n <;> simp only [yieldUpon] at h1 <;> simp only [Oper.upon]
          case value u => obtain ⟨rfl, rfl⟩ := h1; exact h _ _ h2
          case skip => obtain ⟨rfl, rfl⟩ := h1; exact h _ _ h2
          case enter f args =>
            obtain ⟨rfl, h3⟩ := h1
            refine h3.mono fun e w'' hk => ?_
            obtain ⟨rfl, rfl⟩ := hk
            exact h _ _ h2
        | halt x w' => simp only [yieldUpon] at h1
    · rename_i hw; simp only [hw] at hh; exact h _ _ hh

theorem wpAny_of_any : ∀ (fuel : Nat) (listed : Array Bool) (a : Act) (w : World), any P ops eff hold H Q fuel listed a w → wpAny P .any ops Q fuel listed a w
  | 0, _, _, _, h => h
  | fuel + 1, _, _, _, h => ⟨h.1, fun i hi => wpOp_of_op (fun a w => wpAny_of_any fuel _ a w) (h.2 i hi)⟩

variable {C : World → Prop}
theorem Yl_op {eff : Nat → Bool} {i : Nat} {o : Oper} {v : Value} {a : Act} {w : World} (hi : ops[i]? = some o) (he : eff i = false) (hw : C w) (hy : Yl P ops C o v a) {K : Act → World → Prop} (h : K (a.put o.dst v) w) :
    op P ops eff hold H Q i K a w := by
  unfold op
  simp only [hi]
  rcases hy with ⟨h1, h2⟩ | ⟨h1, rfl⟩
  · simp only [h1, if_true, he, Bool.false_eq_true, if_false]; exact ⟨v, h2 w hw, h⟩
  · simp only [h1, Bool.false_eq_true, if_false]; exact h

/-- One operation oj, apart from a read oi, before it. -/
theorem op_put {j : Nat} {oi oj : Oper} {v : Value} (hj : ops[j]? = some oj) (hap : oi.apart ops oj = true)
    (hsi : ∀ cs b, oi.op ≠ .select cs b) (hsj : ∀ cs b, oj.op ≠ .select cs b) (hQ : ∀ c a w, Q (.panic c) (a.put oi.dst v) w → Q (.panic c) a w) {K : Act → World → Prop} {a : Act} {w : World}
    (hy : Yl P ops C oi v a) (h : op P ops eff hold H Q j K (a.put oi.dst v) w) :
    op P ops eff hold H Q j (fun a' w' => Yl P ops C oi v a' ∧ K (a'.put oi.dst v) w') a w := by
  obtain ⟨h1, h2, h3⟩ := Oper.apart_spec hap
  have keep : ∀ (a : Act), Yl P ops C oi v a → ∀ u, Yl P ops C oi v (a.put oj.dst u) := fun a hy u =>
    hy.of_same (execOp_put oi hsi a oj.dst u h3) (wanted_put oi a oj.dst u h3)
  unfold op at *
  simp only [hj] at *
  rw [wanted_put oj a oi.dst v h1] at h
  split
  · rename_i hw
    simp only [hw, if_true] at h
    split
    · rename_i he
      simp only [he, if_true] at h
      refine h.imp (fun h => ?_) (fun h => ⟨by have := h.1; unfold Oper.asks at *; rwa [execOp_put oj hsj a oi.dst v h1] at this, h.2⟩)
      unfold Oper.wp at *
      rw [execOp_put oj hsj a oi.dst v h1] at h
      generalize (execOp a.eval oj).run P w = r at *
      cases r with
      | ok n w' =>
        cases n <;> simp only [Oper.upon] at h ⊢
        case value u => exact ⟨h.1, keep a hy u, by rw [← Act.put_comm a v u h2]; exact h.2⟩
        case skip => exact ⟨h.1, keep a hy _, by rw [← Act.put_comm a v undef h2]; exact h.2⟩
        case defer d =>
          refine ⟨h.1, ?_, ?_⟩
          · have hd : Yl P ops C oi v { a with defers := d :: a.defers } := hy
            exact keep _ hd _
          · have h4 := h.2
            rw [Act.put_defers, Act.put_comm _ v undef h2] at h4
            exact h4
        case enter f args =>
          refine Calls.mono h fun e w'' hk => ?_
          cases e with
          | returned u => exact ⟨hk.1, keep a hy u, by rw [← Act.put_comm a v u h2]; exact hk.2⟩
          | panicked c => exact hQ _ _ _ hk
          | outgrown => exact hk
        case row row args => exact Rows.mono h fun u w'' hk => ⟨hk.1, keep a hy u, by rw [← Act.put_comm a v u h2]; exact hk.2⟩
      | halt x w' =>
        cases x <;> simp only [Oper.upon] at h ⊢
        case panic u => exact hQ _ _ _ h
    · rename_i he
      simp only [he] at h
      obtain ⟨u, hu, hn⟩ := h
      refine ⟨u, ?_, keep a hy u, by rw [← Act.put_comm a v u h2]; exact hn⟩
      unfold yields at *
      rwa [execOp_put oj hsj a oi.dst v h1] at hu
  · rename_i hw
    simp only [hw] at h
    exact ⟨keep a hy _, by rw [← Act.put_comm a v undef h2]; exact h⟩

/-- A read that yields its value in every world of the region's class may be taken first. -/
theorem any_first {L : Array Bool} {i : Nat} {oi : Oper} {v : Value} (hi : ops[i]? = some oi) (he : eff i = false) (hsel : ∀ (j : Nat) (o : Oper) cs b, ops[j]? = some o → o.op ≠ .select cs b)
    (hQ : ∀ c a w, Q (.panic c) (a.put oi.dst v) w → Q (.panic c) a w) :
    ∀ (fuel : Nat) (listed : Array Bool) (a : Act) (w : World), H w → Calm ops (fun j => eff j && !hold j) i L listed →
      (∀ j oj, ops[j]? = some oj → j ≠ i → listed.getD j true = false → (∀ e ∈ oj.after, Region.binds .any e = true → e.on ≠ i) → oi.apart ops oj = true) →
      i ∈ Region.ready .any ops listed → Yl P ops H oi v a →
      any P ops eff hold H Q fuel (listed.setIfInBounds i true) (a.put oi.dst v) w → any P ops eff hold H Q (fuel + 1) listed a w := by
  intro fuel
  induction fuel with
  | zero =>
    intro listed a w hw _ _ hr hy h
    refine ⟨fun h0 => (by rw [h0] at hr; cases hr), fun j hj => ?_⟩
    by_cases hji : j = i
    · subst hji; exact Yl_op hi he hw hy h
    · have := ready_mono hj hji
      rw [h.1] at this
      cases this
  | succ fuel ih =>
    intro listed a w hw hc hfree hr hy h
    refine ⟨fun h0 => (by rw [h0] at hr; cases hr), fun j hj => ?_⟩
    by_cases hji : j = i
    · subst hji; exact Yl_op hi he hw hy h
    · have h1 := h.2 j (ready_mono hj hji)
      obtain ⟨hjun, oj, hoj, hall⟩ := mem_ready.1 hj
      obtain ⟨hej, hLj⟩ := hc.read hj hji
      have hnot := ready_ne hr hoj hall
      have h2 := op_put hoj (hfree j oj hoj hji hjun hnot) (fun cs b => hsel i oi cs b hi) (fun cs b => hsel j oj cs b hoj) hQ hy h1
      have hfree' : ∀ k ok, ops[k]? = some ok → k ≠ i → (listed.setIfInBounds j true).getD k true = false →
          (∀ e ∈ ok.after, Region.binds .any e = true → e.on ≠ i) → oi.apart ops ok = true := fun k ok hk hki hun hno => by
        refine hfree k ok hk hki ?_ hno
        by_cases hjk : j = k
        · subst hjk; exact hjun
        · rw [getD_set_ne true hjk] at hun; exact hun
      have hH : op P ops eff hold H Q j (fun a' w' => H w' ∧ Yl P ops H oi v a' ∧ any P ops eff hold H Q fuel ((listed.setIfInBounds i true).setIfInBounds j true) (a'.put oi.dst v) w') a w := by
        revert h2
        unfold op
        simp only [hoj]
        intro h2
        split
        · rename_i hwt
          simp only [hwt, if_true] at h2
          split
          · rename_i hef
            simp only [hef, if_true] at h2
            exact h2.imp (Oper.wp_mono (fun a w hk => ⟨fun _ => hk.1 (by simpa [hef] using hej), hk.1 (by simpa [hef] using hej), hk.2⟩)) id
          · rename_i hef
            simp only [hef] at h2
            obtain ⟨u, h3, h4⟩ := h2
            exact ⟨u, h3, hw, h4⟩
        · rename_i hwt
          simp only [hwt] at h2
          exact ⟨hw, h2⟩
      refine op_mono (fun a' w' h3 => ih (listed.setIfInBounds j true) a' w' h3.1 (hc.set hLj) hfree' (ready_mono hr (Ne.symm hji)) h3.2.1 ?_) hH
      rw [Array.setIfInBounds_comm _ _ hji]
      exact h3.2.2

/-- A read before which no effect can come up may be taken first: its value is asked in this world alone. -/
theorem any_calm {i : Nat} {oi : Oper} {v : Value} {w : World} {L : Array Bool} (hi : ops[i]? = some oi) (he : eff i = false) (hsel : ∀ (j : Nat) (o : Oper) cs b, ops[j]? = some o → o.op ≠ .select cs b)
    (hQ : ∀ c a w, Q (.panic c) (a.put oi.dst v) w → Q (.panic c) a w) :
    ∀ (fuel : Nat) (listed : Array Bool) (a : Act), Calm ops eff i L listed →
      (∀ j oj, ops[j]? = some oj → j ≠ i → listed.getD j true = false → (∀ e ∈ oj.after, Region.binds .any e = true → e.on ≠ i) → oi.apart ops oj = true) →
      i ∈ Region.ready .any ops listed → Yl P ops (· = w) oi v a →
      any P ops eff hold H Q fuel (listed.setIfInBounds i true) (a.put oi.dst v) w → any P ops eff hold H Q (fuel + 1) listed a w := by
  intro fuel
  induction fuel with
  | zero =>
    intro listed a _ _ hr hy h
    refine ⟨fun h0 => (by rw [h0] at hr; cases hr), fun j hj => ?_⟩
    by_cases hji : j = i
    · subst hji; exact Yl_op (C := (· = w)) hi he rfl hy h
    · have := ready_mono hj hji
      rw [h.1] at this
      cases this
  | succ fuel ih =>
    intro listed a hc hfree hr hy h
    refine ⟨fun h0 => (by rw [h0] at hr; cases hr), fun j hj => ?_⟩
    by_cases hji : j = i
    · subst hji; exact Yl_op (C := (· = w)) hi he rfl hy h
    · have h1 := h.2 j (ready_mono hj hji)
      obtain ⟨hej, hLj⟩ := hc.read hj hji
      obtain ⟨hjun, oj, hoj, hall⟩ := mem_ready.1 hj
      have hnot := ready_ne hr hoj hall
      have h2 := op_put hoj (hfree j oj hoj hji hjun hnot) (fun cs b => hsel i oi cs b hi) (fun cs b => hsel j oj cs b hoj) hQ hy h1
      have hfree' : ∀ k ok, ops[k]? = some ok → k ≠ i → (listed.setIfInBounds j true).getD k true = false →
          (∀ e ∈ ok.after, Region.binds .any e = true → e.on ≠ i) → oi.apart ops ok = true := fun k ok hk hki hun hno => by
        refine hfree k ok hk hki ?_ hno
        by_cases hjk : j = k
        · subst hjk; exact hjun
        · rw [getD_set_ne true hjk] at hun; exact hun
      have hH : op P ops eff hold H Q j (fun a' w' => w' = w ∧ Yl P ops (· = w) oi v a' ∧ any P ops eff hold H Q fuel ((listed.setIfInBounds i true).setIfInBounds j true) (a'.put oi.dst v) w') a w := by
        revert h2
        unfold op
        simp only [hoj, hej, Bool.false_eq_true, if_false]
        intro h2
        split
        · rename_i hwt
          simp only [hwt, if_true] at h2
          obtain ⟨u, h3, h4⟩ := h2
          exact ⟨u, h3, trivial, h4⟩
        · rename_i hwt
          simp only [hwt] at h2
          exact ⟨trivial, h2⟩
      refine op_mono (fun a' w' h3 => ?_) hH
      obtain ⟨rfl, h4, h5⟩ := h3
      refine ih (listed.setIfInBounds j true) a' (hc.set hLj) hfree' (ready_mono hr (Ne.symm hji)) h4 ?_
      rw [Array.setIfInBounds_comm _ _ hji]
      exact h5


/-- A read that yields its value in every world may be taken first. -/
theorem any_free {eff : Nat → Bool} {i : Nat} {oi : Oper} {v : Value} (hi : ops[i]? = some oi) (he : eff i = false) (hsel : ∀ (j : Nat) (o : Oper) cs b, ops[j]? = some o → o.op ≠ .select cs b)
    (hQ : ∀ c a w, Q (.panic c) (a.put oi.dst v) w → Q (.panic c) a w) :
    ∀ (fuel : Nat) (listed : Array Bool) (a : Act) (w : World),
      (∀ j oj, ops[j]? = some oj → j ≠ i → listed.getD j true = false → (∀ e ∈ oj.after, Region.binds .any e = true → e.on ≠ i) → oi.apart ops oj = true) →
      i ∈ Region.ready .any ops listed → Yl P ops (fun _ => True) oi v a →
      any P ops eff hold H Q fuel (listed.setIfInBounds i true) (a.put oi.dst v) w → any P ops eff hold H Q (fuel + 1) listed a w := by
  intro fuel
  induction fuel with
  | zero =>
    intro listed a w _ hr hy h
    refine ⟨fun h0 => (by rw [h0] at hr; cases hr), fun j hj => ?_⟩
    by_cases hji : j = i
    · subst hji; exact Yl_op (C := fun _ => True) hi he trivial hy h
    · have := ready_mono hj hji
      rw [h.1] at this
      cases this
  | succ fuel ih =>
    intro listed a w hfree hr hy h
    refine ⟨fun h0 => (by rw [h0] at hr; cases hr), fun j hj => ?_⟩
    by_cases hji : j = i
    · subst hji; exact Yl_op (C := fun _ => True) hi he trivial hy h
    · have h1 := h.2 j (ready_mono hj hji)
      obtain ⟨hjun, oj, hoj, hall⟩ := mem_ready.1 hj
      have hnot := ready_ne hr hoj hall
      have h2 := op_put hoj (hfree j oj hoj hji hjun hnot) (fun cs b => hsel i oi cs b hi) (fun cs b => hsel j oj cs b hoj) hQ hy h1
      have hfree' : ∀ k ok, ops[k]? = some ok → k ≠ i → (listed.setIfInBounds j true).getD k true = false →
          (∀ e ∈ ok.after, Region.binds .any e = true → e.on ≠ i) → oi.apart ops ok = true := fun k ok hk hki hun hno => by
        refine hfree k ok hk hki ?_ hno
        by_cases hjk : j = k
        · subst hjk; exact hjun
        · rw [getD_set_ne true hjk] at hun; exact hun
      refine op_mono (fun a' w' h3 => ih (listed.setIfInBounds j true) a' w' hfree' (ready_mono hr (Ne.symm hji)) h3.1 ?_) h2
      rw [Array.setIfInBounds_comm _ _ hji]
      exact h3.2
def ok1 (ops : Array Oper) (eff hold : Nat → Bool) (k c : Nat) (listed : Array Bool) : Bool :=
  if eff k then c == 2 && hold k && decide (Region.ready .any ops listed = [k])
  else decide (c < 2) && (Region.ready .any ops listed).contains k && Region.free .any ops listed k && (if c == 1 then calm ops (fun j => eff j && !hold j) k listed else calm ops eff k listed)
/-- The order that is walked first: reads, and effects that keep what the reads read. -/
def plan1 (ops : Array Oper) (eff hold : Nat → Bool) : List (Nat × Nat) → Array Bool → Option (Array Bool)
  | [], listed => some listed
  | (k, c) :: l, listed => if ok1 ops eff hold k c listed = true then plan1 ops eff hold l (listed.setIfInBounds k true) else none
/-- What is walked behind it: no reads among effects. -/
def plan2 (ops : Array Oper) (eff hold : Nat → Bool) : List (Nat × Nat) → Array Bool → Bool
  | [], listed => (Region.ready .any ops listed).isEmpty
  | (k, c) :: l, listed =>
    (if eff k then c == 2 && !hold k && decide (Region.ready .any ops listed = [k])
     else decide (c < 2) && (Region.ready .any ops listed).contains k && Region.free .any ops listed k && (c == 1 || calm ops eff k listed)) &&
    plan2 ops eff hold l (listed.setIfInBounds k true)
def isEff (l : List (Nat × Nat)) (i : Nat) : Bool := l.any fun (k, c) => k == i && c == 2
def planOk (ops : Array Oper) (l1 l2 : List (Nat × Nat)) : Bool :=
  Region.noSelect ops && l1.length + l2.length == ops.size &&
  match plan1 ops (isEff (l1 ++ l2)) (isEff l1) l1 (Array.replicate ops.size false) with
  | none => false
  | some L => plan2 ops (isEff (l1 ++ l2)) (isEff l1) l2 L
variable {eff : Nat → Bool}
theorem wp_qn {o : Oper} {a : Act} {w : World} {K R : Act → World → Prop} (h : o.wp P a w K (Qn Q R)) : o.wp P a w K Q := by
  unfold Oper.wp at *
  generalize (execOp a.eval o).run P w = r at *
  cases r with
  | ok x w' => cases x <;> simp only [Oper.upon] at h ⊢ <;> exact h
  | halt x w' => cases x <;> simp only [Oper.upon] at h ⊢ <;> exact h
theorem any_of_walk2 (hs : Region.noSelect ops = true) (hQ : ∀ c a d v w, Q (.panic c) (a.put d v) w → Q (.panic c) a w) : ∀ (l : List (Nat × Nat)) (listed : Array Bool) (a : Act) (w : World), listed.size = ops.size →
    plan2 ops eff hold l listed = true → walk P ops (fun _ => True) Q l a w → any P ops eff hold H Q l.length listed a w
  | [], _, _, _, _, hB, h => ⟨by simpa [plan2] using hB, h⟩
  | (k, c) :: l, listed, a, w, hsz, hB, h => by
    rw [plan2, Bool.and_eq_true] at hB
    obtain ⟨hB, hB'⟩ := hB
    rw [walk] at h
    cases ho : ops[k]? with
    | none => simp only [ho] at h
    | some o =>
      simp only [ho] at h
      have hsz' : (listed.setIfInBounds k true).size = ops.size := by simp [hsz]
      have ih : ∀ a w, walk P ops (fun _ => True) Q l a w → any P ops eff hold H Q l.length (listed.setIfInBounds k true) a w := fun a w h2 => any_of_walk2 hs hQ l _ a w hsz' hB' h2
      cases he : eff k with
      | true =>
        simp only [he, if_true, Bool.and_eq_true, beq_iff_eq, decide_eq_true_eq, Bool.not_eq_true'] at hB
        obtain ⟨⟨rfl, hh⟩, hr⟩ := hB
        refine ⟨fun h0 => (by rw [h0] at hr; cases hr), fun j hj => ?_⟩
        rw [hr] at hj
        have hjk : j = k := by simpa using hj
        subst hjk
        unfold op
        simp only [ho, he, if_true]
        split
        · rename_i hwt
          simp only [hwt, if_true] at h
          exact h.imp (Oper.wp_mono (fun a w hk => ⟨fun e => (by rw [hh] at e; cases e), ih a w hk.2⟩)) id
        · rename_i hwt
          simp only [hwt] at h
          exact ih _ _ h
      | false =>
        simp only [he, Bool.false_eq_true, if_false, Bool.and_eq_true, Bool.or_eq_true, beq_iff_eq, decide_eq_true_eq] at hB
        obtain ⟨⟨⟨hc2, hr⟩, hf⟩, hcc⟩ := hB
        have hr' : k ∈ Region.ready .any ops listed := by simpa using hr
        by_cases hwt : Region.wanted o (yielded ops a.tmps) = true
        · simp only [hwt, if_true] at h
          match c, hc2, h with
          | 0, _, h =>
            obtain ⟨v, h1, h2⟩ := h
            obtain ⟨L, hL⟩ := calm_spec hsz (hcc.resolve_left (by simp))
            exact any_calm ho he (Region.noSelect_spec hs) (fun c a w => hQ c a _ _ w) l.length listed a hL (Region.free_spec ho hf) hr' (.inl ⟨hwt, fun w' e => by subst e; exact h1⟩) (ih _ _ h2)
          | 1, _, h =>
            obtain ⟨v, h1, h2⟩ := h
            exact any_free ho he (Region.noSelect_spec hs) (fun c a w => hQ c a _ _ w) l.length listed a w (Region.free_spec ho hf) hr' (.inl ⟨hwt, h1⟩) (ih _ _ h2)
          | (n + 2), hc2, _ => exact absurd hc2 (by omega)
        · have hwt' : Region.wanted o (yielded ops a.tmps) = false := by simpa using hwt
          simp only [hwt', Bool.false_eq_true, if_false] at h
          exact any_free ho he (Region.noSelect_spec hs) (fun c a w => hQ c a _ _ w) l.length listed a w (Region.free_spec ho hf) hr' (.inr ⟨hwt', rfl⟩) (ih _ _ h)
theorem any_of_walk1 {R : Act → World → Prop} {m : Nat} {LL : Array Bool} (hs : Region.noSelect ops = true) (hQ : ∀ c a d v w, Q (.panic c) (a.put d v) w → Q (.panic c) a w)
    (hR : ∀ a w, R a w → any P ops eff hold H Q m LL a w) : ∀ (l : List (Nat × Nat)) (listed : Array Bool) (a : Act) (w : World), listed.size = ops.size → H w →
    plan1 ops eff hold l listed = some LL → walk P ops H (Qn Q R) l a w → any P ops eff hold H Q (l.length + m) listed a w
  | [], listed, a, w, _, hw, hB, h => by
    simp only [plan1, Option.some.injEq] at hB
    subst hB
    simp only [List.length_nil, Nat.zero_add]
    exact hR a w h
  | (k, c) :: l, listed, a, w, hsz, hw, hB, h => by
    rw [plan1] at hB
    split at hB
    · rename_i hb
      unfold ok1 at hb
      rw [walk] at h
      cases ho : ops[k]? with
      | none => simp only [ho] at h
      | some o =>
        simp only [ho] at h
        have hsz' : (listed.setIfInBounds k true).size = ops.size := by simp [hsz]
        have ih : ∀ a w, H w → walk P ops H (Qn Q R) l a w → any P ops eff hold H Q (l.length + m) (listed.setIfInBounds k true) a w := fun a w h1 h2 => any_of_walk1 hs hQ hR l _ a w hsz' h1 hB h2
        have hlen : ((k, c) :: l).length + m = l.length + m + 1 := by simp; omega
        rw [hlen]
        cases he : eff k with
        | true =>
          simp only [he, if_true, Bool.and_eq_true, beq_iff_eq, decide_eq_true_eq] at hb
          obtain ⟨⟨rfl, hh⟩, hr⟩ := hb
          refine ⟨fun h0 => (by rw [h0] at hr; cases hr), fun j hj => ?_⟩
          rw [hr] at hj
          have hjk : j = k := by simpa using hj
          subst hjk
          unfold op
          simp only [ho, he, if_true]
          split
          · rename_i hwt
            simp only [hwt, if_true] at h
            refine h.imp (fun h => Oper.wp_mono (fun a w hk => ⟨fun _ => hk.1, ih a w hk.1 hk.2⟩) (wp_qn h)) id
          · rename_i hwt
            simp only [hwt] at h
            exact ih _ _ hw h
        | false =>
          simp only [he, Bool.false_eq_true, if_false, Bool.and_eq_true, decide_eq_true_eq] at hb
          obtain ⟨⟨⟨hc2, hr⟩, hf⟩, hcc⟩ := hb
          have hr' : k ∈ Region.ready .any ops listed := by simpa using hr
          have hc01 : c = 0 ∨ c = 1 := by omega
          by_cases hwt : Region.wanted o (yielded ops a.tmps) = true
          · simp only [hwt, if_true] at h
            rcases hc01 with rfl | rfl
            · simp only at h hcc
              obtain ⟨v, h1, h2⟩ := h
              obtain ⟨L, hL⟩ := calm_spec hsz (by simpa using hcc)
              exact any_calm ho he (Region.noSelect_spec hs) (fun c a w => hQ c a _ _ w) (l.length + m) listed a hL (Region.free_spec ho hf) hr' (.inl ⟨hwt, fun w' e => by subst e; exact h1⟩) (ih _ _ hw h2)
            · simp only at h hcc
              obtain ⟨v, h1, h2⟩ := h
              obtain ⟨L, hL⟩ := calm_spec hsz (by simpa using hcc)
              exact any_first ho he (Region.noSelect_spec hs) (fun c a w => hQ c a _ _ w) (l.length + m) listed a w hw hL (Region.free_spec ho hf) hr' (.inl ⟨hwt, h1⟩) (ih _ _ hw h2)
          · have hwt' : Region.wanted o (yielded ops a.tmps) = false := by simpa using hwt
            simp only [hwt', Bool.false_eq_true, if_false] at h
            rcases hc01 with rfl | rfl
            · obtain ⟨L, hL⟩ := calm_spec hsz (by simpa using hcc)
              exact any_calm ho he (Region.noSelect_spec hs) (fun c a w => hQ c a _ _ w) (l.length + m) listed a hL (Region.free_spec ho hf) hr' (.inr ⟨hwt', rfl⟩) (ih _ _ hw h)
            · obtain ⟨L, hL⟩ := calm_spec hsz (by simpa using hcc)
              exact any_first ho he (Region.noSelect_spec hs) (fun c a w => hQ c a _ _ w) (l.length + m) listed a w hw hL (Region.free_spec ho hf) hr' (.inr ⟨hwt', rfl⟩) (ih _ _ hw h)
    · cases hB
/-- A region that draws its order, in two parts: behind the first one no read is among effects. -/
theorem wp_region {id : Nat} {a : Act} {w : World} {lo : List Oper} (l1 l2 : List (Nat × Nat)) (H : World → Prop) (hm : P.follows .mixedOrders = true) (hp : planOk lo.toArray l1 l2 = true)
    (hQ : ∀ c a d v w, Q (.panic c) (a.put d v) w → Q (.panic c) a w) (hH : H w.drew) (h : walk P lo.toArray H (Qn Q (walk P lo.toArray (fun _ => True) Q l2)) l1 a w.drew) : (Code.region id lo.toArray true).wp P Q a w := by
  simp only [planOk, Bool.and_eq_true, beq_iff_eq] at hp
  obtain ⟨⟨hs, hl⟩, hp⟩ := hp
  split at hp
  · cases hp
  · rename_i L hL
    refine wp_region_any hm (wpAny_of_any (H := H) (eff := isEff (l1 ++ l2)) (hold := isEff l1) _ _ _ _ ?_)
    have hsz : L.size = lo.toArray.size := by
      have : ∀ (l : List (Nat × Nat)) (x y : Array Bool), plan1 lo.toArray (isEff (l1 ++ l2)) (isEff l1) l x = some y → y.size = x.size := by
        intro l
        induction l with
        | nil => intro x y h; simp only [plan1, Option.some.injEq] at h; rw [h]
        | cons p l ih =>
          intro x y h
          rw [plan1] at h
          split at h
          · rw [ih _ _ h]; simp
          · cases h
      rw [this _ _ _ hL]; simp
    have h2 := any_of_walk1 (H := H) (eff := isEff (l1 ++ l2)) (hold := isEff l1) hs hQ (m := l2.length) (fun a w hR => any_of_walk2 hs hQ l2 L a w hsz hp hR) l1 (Array.replicate lo.toArray.size false) a _ (by simp) hH hL h
    rw [hl] at h2
    exact h2
/-- The second part is next. -/
theorem walk_next {a : Act} {w : World} {lo : List Oper} {l2 : List (Nat × Nat)} (h : walk P lo.toArray (fun _ => True) Q l2 a w) : walk P lo.toArray H (Qn Q (walk P lo.toArray (fun _ => True) Q l2)) [] a w := h
end Go.Ord.Two
/- Blocks and owned rows; what a walk leaves; appending. (Picked by mkgen.py) -/
set_option linter.unusedVariables false
set_option linter.unusedSimpArgs false
namespace Go.Ord
/-- A binary operation among effects. -/
theorem wild_binOp {P : Program} {lo : List Oper} {Q : Exit → Act → World → Prop} {H : World → Prop} {k : Nat} {l : List (Nat × Nat)} {a : Act} {w : World} {d : Option Tmp} {ty t1 t2 : TypeId} {pos : String} {af : Array Edge} {g : Option (Nat × Bool)} {bo : BinOp} {x y : Operand}
    (v : Value) (ho : lo[k]? = some ⟨d, .binOp bo t1 x y t2, ty, pos, af, g⟩) (hr : ∀ W, (execOp a.eval ⟨d, .binOp bo t1 x y t2, ty, pos, af, g⟩).run P W = .ok (.value v) W)
    (h : ∀ K : Act → World → Prop, (∀ a, walk P lo.toArray H Q l a w → K a w) → wpList P lo.toArray (Exit.then K (fun _ _ _ => False)) [⟨d, .move (.const v), ty, pos, af, g⟩] a w) : walk P lo.toArray H Q ((k, 1) :: l) a w :=
  walk_wild_as ho v (fun W _ => by unfold yields; rw [hr W]; exact ⟨rfl, rfl⟩) h
/-- An operation that is not wanted. -/
theorem walk_skip {P : Program} {lo : List Oper} {Q : Exit → Act → World → Prop} {H : World → Prop} {k c : Nat} {l : List (Nat × Nat)} {a : Act} {w : World} {o : Oper} (ho : lo[k]? = some o) (hw : Region.wanted o (yielded lo.toArray a.tmps) = false)
    (h : ∀ K : Act → World → Prop, (∀ a, walk P lo.toArray H Q l a w → K a w) → wpList P lo.toArray (Exit.then K (fun _ _ _ => False)) [{ o with op := .move (.const undef) }] a w) : walk P lo.toArray H Q ((k, c) :: l) a w := by
  have := h (fun a' w' => w' = w ∧ walk P lo.toArray H Q l a' w) (fun _ h => ⟨rfl, h⟩)
  rw [walk]; simp only [at_list ho, hw, Bool.false_eq_true, if_false]
  simp only [wpList] at this
  have hwt : Region.wanted { o with op := .move (.const undef) } (yielded lo.toArray a.tmps) = Region.wanted o (yielded lo.toArray a.tmps) := rfl
  rw [hwt, hw] at this
  exact this.2
/-- The guard: an effect is next. -/
theorem at_eff {P : Program} {ops : Array Oper} {Q : Exit → Act → World → Prop} {H : World → Prop} {k : Nat} {l : List (Nat × Nat)} {a : Act} {w : World} (h : walk P ops H Q ((k, 2) :: l) a w) : walk P ops H Q ((k, 2) :: l) a w := h
end Go.Ord
set_option linter.unusedVariables false
set_option linter.unusedSimpArgs false
namespace Go.Proofs.Yteeinehpneppnaa
open Go.RowKit Go.Proofs
/-- Blocks below n are as they were, but those of a list. -/
structure Off (T : List Nat) (n : Nat) (w w' : World) : Prop where
  os : w'.os = w.os
  tape : w'.tape = w.tape
  output : w'.output = w.output
  size : w.heap.size ≤ w'.heap.size
  block : ∀ k, k < n → k ∉ T → w'.heap[k]? = w.heap[k]?
namespace Off
variable {T : List Nat} {n : Nat} {w w' w'' : World}
theorem refl (T : List Nat) (n : Nat) (w : World) : Off T n w w := ⟨rfl, rfl, rfl, Nat.le_refl _, fun _ _ _ => rfl⟩
theorem trans (h : Off T n w w') (k : Off T n w' w'') : Off T n w w'' :=
  ⟨k.os.trans h.os, k.tape.trans h.tape, k.output.trans h.output, Nat.le_trans h.size k.size, fun i hi ht => (k.block i hi ht).trans (h.block i hi ht)⟩
theorem mono {T' : List Nat} {m : Nat} (h : Off T n w w') (hm : m ≤ n) (hT : ∀ k, k < m → k ∈ T → k ∈ T') : Off T' m w w' :=
  ⟨h.os, h.tape, h.output, h.size, fun k hk ht => h.block k (by omega) (fun e => ht (hT k hk e))⟩
theorem of_below {m : Nat} (h : Below m w w') (hm : n ≤ m) : Off T n w w' := ⟨h.os, h.tape, h.output, h.size, fun k hk _ => h.block k (by omega)⟩
theorem below {m : Nat} (h : Off T n w w') (hm : m ≤ n) (hT : ∀ k ∈ T, m ≤ k) : Below m w w' := ⟨h.os, h.tape, h.output, h.size, fun k hk => h.block k (by omega) (fun e => absurd (hT k e) (by omega))⟩
theorem blk (h : Off T n w w') {b : Nat} {A : Array Value} {t : TypeId} (hb : Blk w b A t) (hn : b < n) (ht : b ∉ T) : Blk w' b A t := (h.block b hn ht).trans hb
theorem cell (h : Off T n w w') {a : Addr} (hn : a.block < n) (ht : a.block ∉ T) : w'.cell? a = w.cell? a := World.cell?_of_block (h.block _ hn ht)
theorem of_eq (ho : w'.os = w.os) (ht : w'.tape = w.tape) (hp : w'.output = w.output) (hs : w.heap.size ≤ w'.heap.size) (hb : ∀ k, k < n → k ∉ T → w'.heap[k]? = w.heap[k]?) : Off T n w w' := ⟨ho, ht, hp, hs, hb⟩
theorem alloc (h : Off T n w w') (hn : n ≤ w'.heap.size) (o : Obj) : Off T n w (w'.alloc o) := h.trans (of_below ((Below.refl n w').alloc hn o) (Nat.le_refl _))
theorem drew (h : Off T n w w') : Off T n w w'.drew := ⟨h.os, h.tape, h.output, h.size, h.block⟩
theorem setCell (h : Off T n w w') {p : Addr} (hp : p.block ∈ T ∨ n ≤ p.block) (v : Value) : Off T n w (w'.setCell p v) :=
  h.trans ⟨rfl, rfl, rfl, by simp, fun k hk ht => Below.heap_setCell w' p v k (fun e => by subst e; rcases hp with hp | hp; exact ht hp; omega)⟩
theorem putObj (h : Off T n w w') {p : Nat} (hp : p ∈ T ∨ n ≤ p) (o : Obj) : Off T n w (w'.putObj p o) :=
  h.trans ⟨rfl, rfl, rfl, by simp, fun k hk ht => World.putObj_heap_other (fun e => by subst e; rcases hp with hp | hp; exact ht hp; omega)⟩
theorem rowed {b : Nat} {B : Array Value} {t : TypeId} (h : Off T n w w') (hr : Rowed w' b B t w'') (hp : b ∈ T ∨ n ≤ b) : Off T n w w'' := by
  have hb := hr.below (Below.refl b w') (Nat.le_refl _)
  refine h.trans ⟨hb.os, hb.tape, hb.output, by rw [hr.size]; exact Nat.le_refl _, fun k hk ht => ?_⟩
  exact hr.heap k (fun e => by subst e; rcases hp with hp | hp; exact ht hp; omega)
end Off
def sL : Code → Code
  | .seq a _ => a
  | c => c
def sR : Code → Code
  | .seq _ b => b
  | c => c
def sI : Code → Code
  | .loop c => c
  | .block _ c => c
  | .scope c => c
  | .rangeFunc _ _ _ c => c
  | c => c
theorem news_blk {w : World} {b : Nat} {A : Array Value} {t : TypeId} (h : Blk w b A t) : ∀ (j : Nat) (u : Value), A.toList[j]? = some u → w.cell? ((⟨b, 0, none⟩ : Addr).add j) = some u := by
  intro j u hu
  have : (⟨b, 0, none⟩ : Addr).add j = ⟨b, j, none⟩ := by simp [Addr.add]; try omega
  rw [this, h.cell]
  simpa using hu
/-- A walk is to stop here. -/
def Stop (p : Prop) : Prop := p
theorem at_stop {p : Prop} (h : Stop p) : p := h
theorem own_row {w : World} {base : Nat} {e : TypeId} {size : Nat} {v : Value} {n : Nat} {xs : List Value} (h : w.ownsRow base e size v n xs) : ∀ g, v.ownBlock = some g → base ≤ g := by
  intro g hg
  obtain ⟨hl, ⟨rfl, -⟩ | ⟨g', cap, cur, rfl, hg', hh, hn, hc, hs, ht⟩⟩ := h
  · cases hg
  · simp only [Value.ownBlock, Option.some.injEq] at hg
    omega
theorem own_slice {w : World} {base : Nat} {e : TypeId} {size : Nat} {v : Value} {n : Nat} {xs : List Value} (h : w.ownsRow base e size v n xs) (hn : 0 < n) : ∃ g c, v = .slice (some ⟨g, 0, none⟩) n c := by
  obtain ⟨hl, ⟨-, h0⟩ | ⟨g', cap, cur, rfl, hg', hh, hn, hc, hs, ht⟩⟩ := h
  · omega
  · exact ⟨_, _, rfl⟩
theorem own_nil3 {w : World} {base : Nat} {e : TypeId} {v : Value} {n : Nat} {xs : List Value} (h : w.ownsRow base e 3 v n xs) : ∃ a c, v = .slice a n c := by
  obtain ⟨hl, ⟨rfl, h0⟩ | ⟨g, cap, cur, rfl, hg, hh, hn, hc, hs, ht⟩⟩ := h
  · exact ⟨none, 0, by rw [h0]⟩
  · exact ⟨_, _, rfl⟩
theorem ownBlock_ne {w : World} {b1 b2 s1 s2 n1 n2 : Nat} {e1 e2 : TypeId} {v1 v2 : Value} {x1 x2 : List Value} (h1 : w.ownsRow b1 e1 s1 v1 n1 x1) (h2 : w.ownsRow b2 e2 s2 v2 n2 x2) (he : e1 ≠ e2) : v1.ownBlock = none ∨ v1.ownBlock ≠ v2.ownBlock := by
  obtain ⟨-, ⟨rfl, -⟩ | ⟨g, cap, cur, rfl, -, hh, -⟩⟩ := h1
  · left; rfl
  · right
    obtain ⟨-, ⟨rfl, -⟩ | ⟨g', cap', cur', rfl, -, hh', -⟩⟩ := h2
    · simp [Value.ownBlock]
    · intro e
      simp only [Value.ownBlock, Option.some.injEq] at e
      subst e
      rw [hh] at hh'
      simp only [Option.some.injEq, Obj.cells.injEq] at hh'
      exact he hh'.2.1
theorem own_move {w w' : World} {base base' : Nat} {e : TypeId} {size : Nat} {v : Value} {n : Nat} {xs : List Value} (h : w.ownsRow base e size v n xs) (hb : base' ≤ base) (hk : ∀ g, v.ownBlock = some g → w'.heap[g]? = w.heap[g]?) : w'.ownsRow base' e size v n xs := by
  obtain ⟨hl, h | ⟨g, cap, cur, rfl, hg, hh, r⟩⟩ := h
  · exact ⟨hl, .inl h⟩
  · exact ⟨hl, .inr ⟨g, cap, cur, rfl, by omega, (hk g rfl).trans hh, r⟩⟩
theorem own_ne_blk {w : World} {base : Nat} {e t : TypeId} {size : Nat} {v : Value} {n b : Nat} {xs : List Value} {A : Array Value} (h : w.ownsRow base e size v n xs) (hb : Blk w b A t) (he : e ≠ t) : v.ownBlock ≠ some b := by
  obtain ⟨-, ⟨rfl, -⟩ | ⟨g, cap, cur, rfl, -, hh, -⟩⟩ := h
  · simp [Value.ownBlock]
  · intro e'
    simp only [Value.ownBlock, Option.some.injEq] at e'
    subst e'
    rw [show w.heap[g]? = _ from hb] at hh
    simp only [Option.some.injEq, Obj.cells.injEq] at hh
    exact he hh.2.1.symm
theorem own_store {w w' : World} {base base' : Nat} {e t : TypeId} {size : Nat} {v : Value} {n b : Nat} {xs : List Value} {A : Array Value} (h : w.ownsRow base e size v n xs) (hb : base' ≤ base) (h1 : Blk w b A t) (he : e ≠ t) (hk : ∀ k, k ≠ b → w'.heap[k]? = w.heap[k]?) : w'.ownsRow base' e size v n xs :=
  own_move h hb fun g hg => hk g fun e' => own_ne_blk h h1 he (e' ▸ hg)
/-- A list's cells, or nil. -/
def SrcAt (w : World) (sv : Value) (m size : Nat) (news : List Value) : Prop :=
  news.length = m * size ∧ ((∃ c, sv = .slice none m c ∧ m = 0) ∨ ∃ ad c, sv = .slice (some ad) m c ∧ ∀ j u, news[j]? = some u → w.cell? (ad.add j) = some u)
section
variable {P : Program} {w : World}
theorem run_append_none (base : Nat) (t ty e : TypeId) (i : TypeInfo) (ht : P.underlying t = some (.slice e)) (hi : P.info? e = some i)
    (v : Value) (n : Nat) (size : Nat) (xs : List Value) (hown : w.ownsRow base e size v n xs) (c : Nat) :
    (Builtin.append_ #[t, t] ty #[v, .slice none 0 c]).run P w = .ok v w := by
  rcases hown.2 with ⟨rfl, rfl⟩ | ⟨g, cap, cur, rfl, hbg, hg, hnc, hcm, hcs, htake⟩
  · simp [Builtin.append_, run_underlying ht, sizeOf, typeInfo, hi, Builtin.lenOf, Builtin.firstCells]
  · simp [Builtin.append_, run_underlying ht, sizeOf, typeInfo, hi, Builtin.lenOf, Builtin.firstCells, storeCells, hnc]
theorem wpList_append_src {ops : Array Oper} {rest : List Oper} {o : Oper} {a : Act} {Q : Exit → Act → World → Prop} (hgd : o.guard = none) (s x : Operand) (t : TypeId)
    (ho : o.op = .call { callee := .builtin .append, args := #[s, x], argTypes := #[t, t] })
    (base : Nat) (e : TypeId) (i : TypeInfo) (z : Value) (size bytes : Nat) (ht : P.underlying t = some (.slice e)) (hi : P.info? e = some i) (hz : i.zero = some z)
    (hsize : i.size = size) (hby : i.bytes = bytes) (hzs : z.cells.size = size) (hsz : 0 < size)
    (v : Value) (n : Nat) (xs : List Value) (hs : a.eval s = v) (hown : w.ownsRow base e size v n xs)
    (sv : Value) (m : Nat) (news : List Value) (hx : a.eval x = sv) (hsrc : SrcAt w sv m size news) (h1 : ∀ u ∈ news, u.oneCell' = true)
    (h63 : n + m ≤ maxLen) (hbytes : (n + m) * bytes ≤ 140737488355328) (hbase : base ≤ w.heap.size)
    (h : ∀ v' w', w'.ownsRow base e size v' (n + m) (xs ++ news) → w.grownBy w' v.ownBlock → wpList P ops Q rest (a.put o.dst v') w') : wpList P ops Q (o :: rest) a w := by
  obtain ⟨hl, ⟨c, rfl, rfl⟩ | ⟨ad, c, rfl, hnews⟩⟩ := hsrc
  · have hn : news = [] := List.eq_nil_of_length_eq_zero (by simpa using hl)
    subst hn
    refine wpList_plain hgd fun K hK => ?_
    have hr := run_append_none (P := P) (w := w) base t o.type e i ht hi v n size xs hown c
    unfold Oper.wp execOp
    simp only [ho, resolve, invoke, builtin, Sem.run_bind, Sem.run_pure, Result.andThen_ok, List.map_toArray, List.map_cons, List.map_nil, hs, hx, hr]
    refine hK _ _ (h v w (by simpa using hown) ⟨rfl, rfl, rfl, Nat.le_refl _, fun _ _ _ => rfl⟩)
  · exact wpList_append_own w hgd s x t ho base e i z size bytes ht hi hz hsize hby hzs hsz v n xs hs hown ad m c news hx hl hnews h1 h63 hbytes hbase (fun v' w' h2 h3 _ => h v' w' h2 h3)
end
end Go.Proofs.Yteeinehpneppnaa
