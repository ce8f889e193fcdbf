/- Parts of a proof: Ord. -/
import Derived.Orders
import Derived.Tactics
import Derived.Laws.World
import Derived.KernelRfl
set_option linter.unusedVariables false
set_option linter.unusedSimpArgs false
namespace Go.Ord
variable {P : Program} {ops : Array Oper} {Q : Exit → Act → World → Prop} {H : World → Prop}

/-- What one operation that leaves the world alone yields. -/
def yieldUpon (P : Program) (w : World) (v : Value) : Result Next → Prop
  | .ok (.value u) w' => w' = w ∧ u = v
  | .ok .skip w' => w' = w ∧ v = undef
  | .ok (.enter f args) w' => w' = w ∧ Calls P f args w (fun e w'' => e = .returned v ∧ w = w'')
  | _ => False

def yields (P : Program) (o : Oper) (a : Act) (w : World) (v : Value) : Prop := yieldUpon P w v ((execOp a.eval o).run P w)

/-- One operation comes up: an effect, or a read. -/
def op (P : Program) (ops : Array Oper) (eff : Nat → Bool) (H : World → Prop) (Q : Exit → Act → World → Prop) (i : Nat) (K : Act → World → Prop) (a : Act) (w : World) : Prop :=
  match ops[i]? with
  | none => K a w
  | some o => if Region.wanted o (yielded ops a.tmps) then
      (if eff i then o.wp P a w (fun a' w' => H w' ∧ K a' w') Q ∨ (o.asks P a w ∧ LetsOut Q)
       else ∃ v, yields P o a w v ∧ K (a.put o.dst v) w)
    else K (a.put o.dst undef) w

variable {eff : Nat → Bool}

theorem op_mono {i : Nat} {a : Act} {w : World} {K K' : Act → World → Prop} (h : ∀ a w, K a w → K' a w) (hh : op P ops eff H Q i K a w) : op P ops eff H Q i K' a w := by
  unfold op at *
  split
  · rename_i ho; simp only [ho] at hh; exact h _ _ hh
  · rename_i o ho
    simp only [ho] at hh
    split
    · rename_i hw
      simp only [hw, if_true] at hh
      split
      · rename_i he
        simp only [he, if_true] at hh
        exact hh.imp (Oper.wp_mono (fun a w ⟨h1, h2⟩ => ⟨h1, h _ _ h2⟩)) id
      · rename_i he
        simp only [he] at hh
        obtain ⟨v, h1, h2⟩ := hh
        exact ⟨v, h1, h _ _ h2⟩
    · rename_i hw; simp only [hw] at hh; exact h _ _ hh

/-- Whatever order. -/
def any (P : Program) (ops : Array Oper) (eff : Nat → Bool) (H : World → Prop) (Q : Exit → Act → World → Prop) : Nat → Array Bool → Act → World → Prop
  | 0, listed, a, w => Region.ready .any ops listed = [] ∧ Q .normal a w
  | fuel + 1, listed, a, w =>
    (Region.ready .any ops listed = [] → Q .normal a w) ∧
    ∀ i ∈ Region.ready .any ops listed, op P ops eff H Q i (any P ops eff H Q fuel (listed.setIfInBounds i true)) a w

theorem wpOp_of_op {i : Nat} {K K' : Act → World → Prop} {a : Act} {w : World} (h : ∀ a w, K a w → K' a w) (hh : op P ops eff H Q i K a w) : wpOp P ops Q i K' a w := by
  unfold op at hh
  unfold wpOp
  split
  · rename_i ho; simp only [ho] at hh; exact h _ _ hh
  · rename_i o ho
    simp only [ho] at hh
    split
    · rename_i hw
      simp only [hw, if_true] at hh
      split at hh
      · exact hh.imp (Oper.wp_mono (fun a w hk => h _ _ hk.2)) id
      · left
        obtain ⟨v, h1, h2⟩ := hh
        unfold yields at h1
        unfold Oper.wp
        generalize (execOp a.eval o).run P w = r at *
        cases r with
        | ok n w' =>
          cases n <;> simp only [yieldUpon] at h1 <;> simp only [Oper.upon]
          case value u => obtain ⟨rfl, rfl⟩ := h1; exact h _ _ h2
          case skip => obtain ⟨rfl, rfl⟩ := h1; exact h _ _ h2
          case enter f args =>
            obtain ⟨rfl, h3⟩ := h1
            refine h3.mono fun e w'' hk => ?_
            obtain ⟨rfl, rfl⟩ := hk
            exact h _ _ h2
        | halt x w' => simp only [yieldUpon] at h1
    · rename_i hw; simp only [hw] at hh; exact h _ _ hh

theorem wpAny_of_any : ∀ (fuel : Nat) (listed : Array Bool) (a : Act) (w : World), any P ops eff H Q fuel listed a w → wpAny P .any ops Q fuel listed a w
  | 0, _, _, _, h => h
  | fuel + 1, _, _, _, h => ⟨h.1, fun i hi => wpOp_of_op (fun a w => wpAny_of_any fuel _ a w) (h.2 i hi)⟩

/-- The operation leaves v in its temporary, in every world of a class. -/
def Yl (P : Program) (ops : Array Oper) (C : World → Prop) (o : Oper) (v : Value) (a : Act) : Prop :=
  (Region.wanted o (yielded ops a.tmps) = true ∧ ∀ w, C w → yields P o a w v) ∨ (Region.wanted o (yielded ops a.tmps) = false ∧ v = undef)

variable {C : World → Prop}

theorem Yl.op {i : Nat} {o : Oper} {v : Value} {a : Act} {w : World} (hi : ops[i]? = some o) (he : eff i = false) (hw : C w) (hy : Yl P ops C o v a) {K : Act → World → Prop} (h : K (a.put o.dst v) w) :
    Ord.op P ops eff H Q i K a w := by
  unfold Ord.op
  simp only [hi]
  rcases hy with ⟨h1, h2⟩ | ⟨h1, rfl⟩
  · simp only [h1, if_true, he, Bool.false_eq_true, if_false]; exact ⟨v, h2 w hw, h⟩
  · simp only [h1, Bool.false_eq_true, if_false]; exact h

theorem Yl.of_same {o : Oper} {v : Value} {a a' : Act} (hy : Yl P ops C o v a) (he : execOp a'.eval o = execOp a.eval o)
    (hw : Region.wanted o (yielded ops a'.tmps) = Region.wanted o (yielded ops a.tmps)) : Yl P ops C o v a' := by
  unfold Yl yields at *
  rw [he, hw]
  exact hy

/-- One operation oj, apart from a read oi, before it. -/
theorem op_put {j : Nat} {oi oj : Oper} {v : Value} (hj : ops[j]? = some oj) (hap : oi.apart ops oj = true)
    (hsi : ∀ cs b, oi.op ≠ .select cs b) (hsj : ∀ cs b, oj.op ≠ .select cs b) (hQ : ∀ c a w, Q (.panic c) (a.put oi.dst v) w → Q (.panic c) a w) {K : Act → World → Prop} {a : Act} {w : World}
    (hy : Yl P ops C oi v a) (h : op P ops eff H Q j K (a.put oi.dst v) w) :
    op P ops eff H Q j (fun a' w' => Yl P ops C oi v a' ∧ K (a'.put oi.dst v) w') a w := by
  obtain ⟨h1, h2, h3⟩ := Oper.apart_spec hap
  have keep : ∀ (a : Act), Yl P ops C oi v a → ∀ u, Yl P ops C oi v (a.put oj.dst u) := fun a hy u =>
    hy.of_same (execOp_put oi hsi a oj.dst u h3) (wanted_put oi a oj.dst u h3)
  unfold op at *
  simp only [hj] at *
  rw [wanted_put oj a oi.dst v h1] at h
  split
  · rename_i hw
    simp only [hw, if_true] at h
    split
    · rename_i he
      simp only [he, if_true] at h
      refine h.imp (fun h => ?_) (fun h => ⟨by have := h.1; unfold Oper.asks at *; rwa [execOp_put oj hsj a oi.dst v h1] at this, h.2⟩)
      unfold Oper.wp at *
      rw [execOp_put oj hsj a oi.dst v h1] at h
      generalize (execOp a.eval oj).run P w = r at *
      cases r with
      | ok n w' =>
        cases n <;> simp only [Oper.upon] at h ⊢
        case value u => exact ⟨h.1, keep a hy u, by rw [← Act.put_comm a v u h2]; exact h.2⟩
        case skip => exact ⟨h.1, keep a hy _, by rw [← Act.put_comm a v undef h2]; exact h.2⟩
        case defer d =>
          refine ⟨h.1, ?_, ?_⟩
          · have hd : Yl P ops C oi v { a with defers := d :: a.defers } := hy
            exact keep _ hd _
          · have h4 := h.2
            rw [Act.put_defers, Act.put_comm _ v undef h2] at h4
            exact h4
        case enter f args =>
          refine Calls.mono h fun e w'' hk => ?_
          cases e with
          | returned u => exact ⟨hk.1, keep a hy u, by rw [← Act.put_comm a v u h2]; exact hk.2⟩
          | panicked c => exact hQ _ _ _ hk
          | outgrown => exact hk
        case row row args => exact Rows.mono h fun u w'' hk => ⟨hk.1, keep a hy u, by rw [← Act.put_comm a v u h2]; exact hk.2⟩
      | halt x w' =>
        cases x <;> simp only [Oper.upon] at h ⊢
        case panic u => exact hQ _ _ _ h
    · rename_i he
      simp only [he] at h
      obtain ⟨u, hu, hn⟩ := h
      refine ⟨u, ?_, keep a hy u, by rw [← Act.put_comm a v u h2]; exact hn⟩
      unfold yields at *
      rwa [execOp_put oj hsj a oi.dst v h1] at hu
  · rename_i hw
    simp only [hw] at h
    exact ⟨keep a hy _, by rw [← Act.put_comm a v undef h2]; exact h⟩

theorem ready_ne {i j : Nat} {listed : Array Bool} {oj : Oper} (hr : i ∈ Region.ready .any ops listed) (hoj : ops[j]? = some oj) (hall : ∀ e ∈ oj.after, Region.binds .any e = true → listed.getD e.on false = true) :
    ∀ e ∈ oj.after, Region.binds .any e = true → e.on ≠ i := fun e he hb heq => by
  have h1 := hall e he hb
  have h0 := (mem_ready.1 hr).1
  rw [heq] at h1
  rcases Nat.lt_or_ge i listed.size with h' | h'
  · simp [h'] at h0 h1; rw [h0] at h1; cases h1
  · simp [Array.getElem?_eq_none h'] at h1

/-- A read that yields its value in every world of the region's class may be taken first. -/
theorem any_first {i : Nat} {oi : Oper} {v : Value} (hi : ops[i]? = some oi) (he : eff i = false) (hsel : ∀ (j : Nat) (o : Oper) cs b, ops[j]? = some o → o.op ≠ .select cs b)
    (hQ : ∀ c a w, Q (.panic c) (a.put oi.dst v) w → Q (.panic c) a w) :
    ∀ (fuel : Nat) (listed : Array Bool) (a : Act) (w : World), H w →
      (∀ j oj, ops[j]? = some oj → j ≠ i → listed.getD j true = false → (∀ e ∈ oj.after, Region.binds .any e = true → e.on ≠ i) → oi.apart ops oj = true) →
      i ∈ Region.ready .any ops listed → Yl P ops H oi v a →
      any P ops eff H Q fuel (listed.setIfInBounds i true) (a.put oi.dst v) w → any P ops eff H Q (fuel + 1) listed a w := by
  intro fuel
  induction fuel with
  | zero =>
    intro listed a w hw _ hr hy h
    refine ⟨fun h0 => (by rw [h0] at hr; cases hr), fun j hj => ?_⟩
    by_cases hji : j = i
    · subst hji; exact hy.op hi he hw h
    · have := ready_mono hj hji
      rw [h.1] at this
      cases this
  | succ fuel ih =>
    intro listed a w hw hfree hr hy h
    refine ⟨fun h0 => (by rw [h0] at hr; cases hr), fun j hj => ?_⟩
    by_cases hji : j = i
    · subst hji; exact hy.op hi he hw h
    · have h1 := h.2 j (ready_mono hj hji)
      obtain ⟨hjun, oj, hoj, hall⟩ := mem_ready.1 hj
      have hnot := ready_ne hr hoj hall
      have h2 := op_put hoj (hfree j oj hoj hji hjun hnot) (fun cs b => hsel i oi cs b hi) (fun cs b => hsel j oj cs b hoj) hQ hy h1
      have hfree' : ∀ k ok, ops[k]? = some ok → k ≠ i → (listed.setIfInBounds j true).getD k true = false →
          (∀ e ∈ ok.after, Region.binds .any e = true → e.on ≠ i) → oi.apart ops ok = true := fun k ok hk hki hun hno => by
        refine hfree k ok hk hki ?_ hno
        by_cases hjk : j = k
        · subst hjk; exact hjun
        · rw [getD_set_ne true hjk] at hun; exact hun
      have hH : op P ops eff H Q j (fun a' w' => H w' ∧ Yl P ops H oi v a' ∧ any P ops eff H Q fuel ((listed.setIfInBounds i true).setIfInBounds j true) (a'.put oi.dst v) w') a w := by
        revert h2
        unfold op
        simp only [hoj]
        intro h2
        split
        · rename_i hwt
          simp only [hwt, if_true] at h2
          split
          · rename_i hef
            simp only [hef, if_true] at h2
            exact h2.imp (Oper.wp_mono (fun a w hk => ⟨hk.1, hk.1, hk.2⟩)) id
          · rename_i hef
            simp only [hef] at h2
            obtain ⟨u, h3, h4⟩ := h2
            exact ⟨u, h3, hw, h4⟩
        · rename_i hwt
          simp only [hwt] at h2
          exact ⟨hw, h2⟩
      refine op_mono (fun a' w' h3 => ih (listed.setIfInBounds j true) a' w' h3.1 hfree' (ready_mono hr (Ne.symm hji)) h3.2.1 ?_) hH
      rw [Array.setIfInBounds_comm _ _ hji]
      exact h3.2.2

/-- All that can be listed from here without a certain operation. -/
def reach (ops : Array Oper) (i : Nat) : Nat → Array Bool → Array Bool
  | 0, l => l
  | n + 1, l => reach ops i n ((Region.ready .any ops l).foldl (fun l j => if j == i then l else l.setIfInBounds j true) l)

/-- Before this operation no effect can come up that has not come up yet. -/
def calm (ops : Array Oper) (eff : Nat → Bool) (i : Nat) (listed : Array Bool) : Bool :=
  let L := reach ops i ops.size listed
  (Region.ready .any ops L).all (· == i) && (List.range ops.size).all fun j => (!listed.getD j false || L.getD j false) && (listed.getD j true || !eff j || j == i || !L.getD j false)

structure Calm (ops : Array Oper) (eff : Nat → Bool) (i : Nat) (L listed : Array Bool) : Prop where
  closed : ∀ j ∈ Region.ready .any ops L, j = i
  sub : ∀ j, j < ops.size → listed.getD j false = true → L.getD j false = true
  quiet : ∀ j, j < ops.size → listed.getD j true = false → j ≠ i → L.getD j false = true → eff j = false
  size : L.size = ops.size
  lsize : listed.size = ops.size

theorem reach_size (i : Nat) : ∀ (n : Nat) (l : Array Bool), (reach ops i n l).size = l.size
  | 0, _ => rfl
  | n + 1, l => by
    rw [reach, reach_size i n]
    generalize Region.ready .any ops l = rs
    induction rs generalizing l with
    | nil => rfl
    | cons r rs ih =>
      rw [List.foldl_cons, ih]
      split <;> simp

theorem calm_spec {i : Nat} {listed : Array Bool} (hs : listed.size = ops.size) (h : calm ops eff i listed = true) : ∃ L, Calm ops eff i L listed := by
  unfold calm at h
  simp only [Bool.and_eq_true, List.all_eq_true, List.mem_range, beq_iff_eq, Bool.or_eq_true, Bool.not_eq_true'] at h
  obtain ⟨h1, h2⟩ := h
  refine ⟨reach ops i ops.size listed, h1, fun j hj hl => ?_, fun j hj hl hne hL => ?_, by rw [reach_size, hs], hs⟩
  · have := (h2 j hj).1
    rw [hl] at this
    simpa using this
  · have := (h2 j hj).2
    rw [hl, hL] at this
    simpa [hne] using this

theorem getD_sw {L : Array Bool} {j : Nat} (hj : j < L.size) : L.getD j true = L.getD j false := by simp [hj]

theorem Calm.read {i j : Nat} {L listed : Array Bool} (c : Calm ops eff i L listed) (hj : j ∈ Region.ready .any ops listed) (hne : j ≠ i) : eff j = false ∧ L.getD j false = true := by
  obtain ⟨hun, o, ho, hall⟩ := mem_ready.1 hj
  have hlt : j < ops.size := (Array.getElem?_eq_some_iff.1 ho).1
  have hL : L.getD j false = true := by
    cases hx : L.getD j false with
    | true => rfl
    | false =>
      refine absurd (c.closed j ?_) hne
      refine mem_ready.2 ⟨by rw [getD_sw (by rw [c.size]; exact hlt)]; exact hx, o, ho, fun e he hb => ?_⟩
      have h1 := hall e he hb
      refine c.sub _ ?_ h1
      rcases Nat.lt_or_ge e.on listed.size with h' | h'
      · rw [← c.lsize]; exact h'
      · simp [Array.getElem?_eq_none h'] at h1
  exact ⟨c.quiet j hlt hun hne hL, hL⟩

theorem Calm.set {i j : Nat} {L listed : Array Bool} (c : Calm ops eff i L listed) (hj : L.getD j false = true) : Calm ops eff i L (listed.setIfInBounds j true) := by
  refine ⟨c.closed, fun k hk hl => ?_, fun k hk hl hne hL => ?_, c.size, by simp [c.lsize]⟩
  · by_cases h : j = k
    · subst h; exact hj
    · rw [getD_set_ne false h] at hl; exact c.sub k hk hl
  · by_cases h : j = k
    · subst h
      have : j < listed.size := by rw [c.lsize]; exact hk
      simp [this] at hl
    · rw [getD_set_ne true h] at hl; exact c.quiet k hk hl hne hL

/-- A read before which no effect can come up may be taken first: its value is asked in this world alone. -/
theorem any_calm {i : Nat} {oi : Oper} {v : Value} {w : World} {L : Array Bool} (hi : ops[i]? = some oi) (he : eff i = false) (hsel : ∀ (j : Nat) (o : Oper) cs b, ops[j]? = some o → o.op ≠ .select cs b)
    (hQ : ∀ c a w, Q (.panic c) (a.put oi.dst v) w → Q (.panic c) a w) :
    ∀ (fuel : Nat) (listed : Array Bool) (a : Act), Calm ops eff i L listed →
      (∀ j oj, ops[j]? = some oj → j ≠ i → listed.getD j true = false → (∀ e ∈ oj.after, Region.binds .any e = true → e.on ≠ i) → oi.apart ops oj = true) →
      i ∈ Region.ready .any ops listed → Yl P ops (· = w) oi v a →
      any P ops eff H Q fuel (listed.setIfInBounds i true) (a.put oi.dst v) w → any P ops eff H Q (fuel + 1) listed a w := by
  intro fuel
  induction fuel with
  | zero =>
    intro listed a _ _ hr hy h
    refine ⟨fun h0 => (by rw [h0] at hr; cases hr), fun j hj => ?_⟩
    by_cases hji : j = i
    · subst hji; exact Yl.op (C := (· = w)) hi he rfl hy h
    · have := ready_mono hj hji
      rw [h.1] at this
      cases this
  | succ fuel ih =>
    intro listed a hc hfree hr hy h
    refine ⟨fun h0 => (by rw [h0] at hr; cases hr), fun j hj => ?_⟩
    by_cases hji : j = i
    · subst hji; exact Yl.op (C := (· = w)) hi he rfl hy h
    · have h1 := h.2 j (ready_mono hj hji)
      obtain ⟨hej, hLj⟩ := hc.read hj hji
      obtain ⟨hjun, oj, hoj, hall⟩ := mem_ready.1 hj
      have hnot := ready_ne hr hoj hall
      have h2 := op_put hoj (hfree j oj hoj hji hjun hnot) (fun cs b => hsel i oi cs b hi) (fun cs b => hsel j oj cs b hoj) hQ hy h1
      have hfree' : ∀ k ok, ops[k]? = some ok → k ≠ i → (listed.setIfInBounds j true).getD k true = false →
          (∀ e ∈ ok.after, Region.binds .any e = true → e.on ≠ i) → oi.apart ops ok = true := fun k ok hk hki hun hno => by
        refine hfree k ok hk hki ?_ hno
        by_cases hjk : j = k
        · subst hjk; exact hjun
        · rw [getD_set_ne true hjk] at hun; exact hun
      have hH : op P ops eff H Q j (fun a' w' => w' = w ∧ Yl P ops (· = w) oi v a' ∧ any P ops eff H Q fuel ((listed.setIfInBounds i true).setIfInBounds j true) (a'.put oi.dst v) w') a w := by
        revert h2
        unfold op
        simp only [hoj, hej, Bool.false_eq_true, if_false]
        intro h2
        split
        · rename_i hwt
          simp only [hwt, if_true] at h2
          obtain ⟨u, h3, h4⟩ := h2
          exact ⟨u, h3, trivial, h4⟩
        · rename_i hwt
          simp only [hwt] at h2
          exact ⟨trivial, h2⟩
      refine op_mono (fun a' w' h3 => ?_) hH
      obtain ⟨rfl, h4, h5⟩ := h3
      refine ih (listed.setIfInBounds j true) a' (hc.set hLj) hfree' (ready_mono hr (Ne.symm hji)) h4 ?_
      rw [Array.setIfInBounds_comm _ _ hji]
      exact h5

/-- THE ORDER THAT IS WALKED: each operation's number, and its kind: 0 a read before which no effect can come up, 1 a read among effects, 2 an effect. -/
def plan (ops : Array Oper) (eff : Nat → Bool) : List (Nat × Nat) → Array Bool → Bool
  | [], listed => (Region.ready .any ops listed).isEmpty
  | (k, c) :: l, listed =>
    (if eff k then c == 2 && decide (Region.ready .any ops listed = [k])
     else decide (c < 2) && (Region.ready .any ops listed).contains k && Region.free .any ops listed k && (c == 1 || calm ops eff k listed)) &&
    plan ops eff l (listed.setIfInBounds k true)

def planOk (ops : Array Oper) (l : List (Nat × Nat)) : Bool :=
  Region.noSelect ops && l.length == ops.size && plan ops (fun i => l.any fun (k, c) => k == i && c == 2) l (Array.replicate ops.size false)

/-- The walk in that order. -/
def walk (P : Program) (ops : Array Oper) (H : World → Prop) (Q : Exit → Act → World → Prop) : List (Nat × Nat) → Act → World → Prop
  | [], a, w => Q .normal a w
  | (k, c) :: l, a, w =>
    match ops[k]? with
    | none => False
    | some o => if Region.wanted o (yielded ops a.tmps) then
        (match c with
         | 0 => ∃ v, yields P o a w v ∧ walk P ops H Q l (a.put o.dst v) w
         | 1 => ∃ v, (∀ W, H W → yields P o a W v) ∧ walk P ops H Q l (a.put o.dst v) w
         | _ => o.wp P a w (fun a' w' => H w' ∧ walk P ops H Q l a' w') Q ∨ (o.asks P a w ∧ LetsOut Q))
      else walk P ops H Q l (a.put o.dst undef) w

theorem any_of_walkD (hs : Region.noSelect ops = true) (hQ : ∀ c a d v w, (∃ o, o ∈ ops ∧ o.dst = d) → Q (.panic c) (a.put d v) w → Q (.panic c) a w) : ∀ (l : List (Nat × Nat)) (listed : Array Bool) (a : Act) (w : World), listed.size = ops.size → H w →
    plan ops eff l listed = true → walk P ops H Q l a w → any P ops eff H Q l.length listed a w
  | [], _, _, _, _, _, hB, h => ⟨by simpa [plan] using hB, h⟩
  | (k, c) :: l, listed, a, w, hsz, hw, hB, h => by
    rw [plan, Bool.and_eq_true] at hB
    obtain ⟨hB, hB'⟩ := hB
    rw [walk] at h
    cases ho : ops[k]? with
    | none => simp only [ho] at h
    | some o =>
      simp only [ho] at h
      have hsz' : (listed.setIfInBounds k true).size = ops.size := by simp [hsz]
      have ih : ∀ a w, H w → walk P ops H Q l a w → any P ops eff H Q l.length (listed.setIfInBounds k true) a w := fun a w h1 h2 => any_of_walkD hs hQ l _ a w hsz' h1 hB' h2
      cases he : eff k with
      | true =>
        simp only [he, if_true, Bool.and_eq_true, beq_iff_eq, decide_eq_true_eq] at hB
        obtain ⟨rfl, hr⟩ := hB
        refine ⟨fun h0 => (by rw [h0] at hr; cases hr), fun j hj => ?_⟩
        rw [hr] at hj
        have hjk : j = k := by simpa using hj
        subst hjk
        unfold op
        simp only [ho, he, if_true]
        split
        · rename_i hwt
          simp only [hwt, if_true] at h
          exact h.imp (Oper.wp_mono (fun a w hk => ⟨hk.1, ih a w hk.1 hk.2⟩)) id
        · rename_i hwt
          simp only [hwt] at h
          exact ih _ _ hw h
      | false =>
        simp only [he, Bool.false_eq_true, if_false, Bool.and_eq_true, Bool.or_eq_true, beq_iff_eq, decide_eq_true_eq] at hB
        obtain ⟨⟨⟨hc2, hr⟩, hf⟩, hcc⟩ := hB
        have hr' : k ∈ Region.ready .any ops listed := by simpa using hr
        by_cases hwt : Region.wanted o (yielded ops a.tmps) = true
        · simp only [hwt, if_true] at h
          match c, hc2, h with
          | 0, _, h =>
            obtain ⟨v, h1, h2⟩ := h
            have hcalm : calm ops eff k listed = true := hcc.resolve_left (by simp)
            obtain ⟨L, hL⟩ := calm_spec hsz hcalm
            exact any_calm ho he (Region.noSelect_spec hs) (fun c a w => hQ c a _ _ w ⟨_, Array.mem_of_getElem? ho, rfl⟩) l.length listed a hL (Region.free_spec ho hf) hr' (.inl ⟨hwt, fun w' e => by subst e; exact h1⟩) (ih _ _ hw h2)
          | 1, _, h =>
            obtain ⟨v, h1, h2⟩ := h
            exact any_first ho he (Region.noSelect_spec hs) (fun c a w => hQ c a _ _ w ⟨_, Array.mem_of_getElem? ho, rfl⟩) l.length listed a w hw (Region.free_spec ho hf) hr' (.inl ⟨hwt, h1⟩) (ih _ _ hw h2)
          | (n + 2), hc2, _ => exact absurd hc2 (by omega)
        · have hwt' : Region.wanted o (yielded ops a.tmps) = false := by simpa using hwt
          simp only [hwt', Bool.false_eq_true, if_false] at h
          exact any_first ho he (Region.noSelect_spec hs) (fun c a w => hQ c a _ _ w ⟨_, Array.mem_of_getElem? ho, rfl⟩) l.length listed a w hw (Region.free_spec ho hf) hr' (.inr ⟨hwt', rfl⟩) (ih _ _ hw h)

theorem any_of_walk (hs : Region.noSelect ops = true) (hQ : ∀ c a d v w, Q (.panic c) (a.put d v) w → Q (.panic c) a w) (l : List (Nat × Nat)) (listed : Array Bool) (a : Act) (w : World) (hl : listed.size = ops.size) (hw : H w) (hp : plan ops eff l listed = true) (h : walk P ops H Q l a w) : any P ops eff H Q l.length listed a w :=
  any_of_walkD hs (fun c a d v w _ => hQ c a d v w) l listed a w hl hw hp h
/-- A REGION THAT DRAWS ITS ORDER, WALKED ONCE, in an order in which each read is taken as early as it can be. -/
theorem wp_region {id : Nat} {a : Act} {w : World} {lo : List Oper} (l : List (Nat × Nat)) (H : World → Prop) (hm : P.follows .mixedOrders = true) (hp : planOk lo.toArray l = true)
    (hQ : ∀ c a d v w, Q (.panic c) (a.put d v) w → Q (.panic c) a w) (hH : H w.drew) (h : walk P lo.toArray H Q l a w.drew) : (Code.region id lo.toArray true).wp P Q a w := by
  simp only [planOk, Bool.and_eq_true, beq_iff_eq] at hp
  obtain ⟨⟨hs, hl⟩, hp⟩ := hp
  refine wp_region_any hm (wpAny_of_any (H := H) (eff := fun i => l.any fun (k, c) => k == i && c == 2) _ _ _ _ ?_)
  have h2 := any_of_walk (H := H) (eff := fun i => l.any fun (k, c) => k == i && c == 2) hs hQ l (Array.replicate lo.toArray.size false) a _ (by simp) hH hp h
  rw [hl] at h2
  exact h2
/-- The same, where the post at a panic looks only at slots that the region does not write. -/
theorem wp_regionD {id : Nat} {a : Act} {w : World} {lo : List Oper} (l : List (Nat × Nat)) (H : World → Prop) (hm : P.follows .mixedOrders = true) (hp : planOk lo.toArray l = true)
    (hQ : ∀ c a d v w, (∃ o, o ∈ lo.toArray ∧ o.dst = d) → Q (.panic c) (a.put d v) w → Q (.panic c) a w) (hH : H w.drew) (h : walk P lo.toArray H Q l a w.drew) : (Code.region id lo.toArray true).wp P Q a w := by
  simp only [planOk, Bool.and_eq_true, beq_iff_eq] at hp
  obtain ⟨⟨hs, hl⟩, hp⟩ := hp
  refine wp_region_any hm (wpAny_of_any (H := H) (eff := fun i => l.any fun (k, c) => k == i && c == 2) _ _ _ _ ?_)
  have h2 := any_of_walkD (H := H) (eff := fun i => l.any fun (k, c) => k == i && c == 2) hs hQ l (Array.replicate lo.toArray.size false) a _ (by simp) hH hp h
  rw [hl] at h2
  exact h2

section
variable {k : Nat} {l : List (Nat × Nat)} {a : Act} {w : World} {o : Oper} {lo : List Oper}
theorem at_list (ho : lo[k]? = some o) : lo.toArray[k]? = some o := by simpa using ho
/-- An operation that hands back a value, and nothing else. -/
def isRead : Op → Bool
  | .move _ | .assign _ | .pick .. | .build .. | .load .. | .nilCheck _ | .binOp .. | .unOp .. | .convert .. | .makeInterface ..
  | .makeFunc .. | .slice .. | .fieldAddr .. | .field .. | .indexAddr .. | .index .. | .lookup .. | .typeAssert .. | .extract .. => true
  | .call { callee := .builtin b, .. } => match b with | .len | .cap | .min | .max => true | _ => false
  | _ => false

theorem run_v {s : Sem Value} {n : Next} {w w' : World} (h : (do pure (Next.value (← s)) : Sem Next).run P w = .ok n w') : ∃ v, n = .value v := by
  rw [Sem.run_bind] at h
  cases hs : s.run P w with
  | ok v w1 => rw [hs] at h; simp only [Result.andThen] at h; exact ⟨v, by cases h; rfl⟩
  | halt x w1 => rw [hs] at h; simp only [Result.andThen] at h; cases h

theorem run_bind_v {α : Type} {s : Sem α} {f : α → Sem Next} (hf : ∀ a w n w', (f a).run P w = .ok n w' → ∃ v, n = .value v) : ∀ w n w', (s >>= f).run P w = .ok n w' → ∃ v, n = .value v := by
  intro w n w' h
  rw [Sem.run_bind] at h
  cases hs : s.run P w with
  | ok v w1 => rw [hs] at h; exact hf _ _ _ _ h
  | halt x w1 => rw [hs] at h; simp only [Result.andThen] at h; cases h

theorem read_value {ρ : Operand → Value} (hr : isRead o.op = true) {n : Next} {w' : World} (h : (execOp ρ o).run P w = .ok n w') : ∃ v, n = .value v := by
  obtain ⟨dst, op, type, pos, after, guard⟩ := o
  cases op <;> simp only [isRead] at hr <;> simp only [execOp] at h <;> first
    | exact run_v h
    | (cases hr; done)
    | skip
  case move x => exact ⟨_, by cases h; rfl⟩
  case assign x => exact ⟨_, by cases h; rfl⟩
  case pick c a b =>
    rw [Sem.run_bind] at h
    cases hs : (asBool (ρ c)).run P w with
    | ok v w1 => rw [hs] at h; simp only [Result.andThen] at h; exact ⟨_, by cases h; rfl⟩
    | halt x w1 => rw [hs] at h; simp only [Result.andThen] at h; cases h
  case nilCheck x =>
    split at h
    · cases h
    · cases h
    · cases h
    · split at h
      · cases h
      · revert h
        refine run_bind_v (fun a w n w' => ?_) _ _ _
        refine run_bind_v (fun a w n w' => ?_) _ _ _
        split
        · exact run_bind_v (fun a w n w' h => ⟨_, by cases h; rfl⟩) _ _ _
        · exact fun h => ⟨_, by cases h; rfl⟩
      · exact ⟨_, by cases h; rfl⟩
    · exact ⟨_, by cases h; rfl⟩
  case call c =>
    obtain ⟨callee, args, argTypes⟩ := c
    cases callee with
    | builtin b =>
      cases b <;> simp only at hr <;> first
        | (cases hr; done)
        | (simp only [resolve, invoke, builtin] at h; exact run_v h)
    | _ => cases hr

/-- A read, in this world. -/
theorem walk_calm (ho : lo[k]? = some o) (hr : isRead o.op = true)
    (h : ∀ K : Act → World → Prop, (∀ a, walk P lo.toArray H Q l a w → K a w) → wpList P lo.toArray (Exit.then K (fun _ _ _ => False)) [o] a w) : walk P lo.toArray H Q ((k, 0) :: l) a w := by
  have := h (fun a' w' => w' = w ∧ walk P lo.toArray H Q l a' w) (fun _ h => ⟨rfl, h⟩)
  rw [walk]; simp only [at_list ho]
  simp only [wpList] at this
  split
  · rename_i hw
    rw [if_pos hw] at this
    rcases this with h1 | ⟨_, _, _, h1⟩
    · unfold Oper.wp at h1
      unfold yields
      generalize hrun : (execOp a.eval o).run P w = r at h1
      cases r with
      | ok n w' =>
        obtain ⟨v, rfl⟩ := read_value hr hrun
        simp only [Oper.upon, Exit.then] at h1
        obtain ⟨rfl, h2⟩ := h1
        exact ⟨v, ⟨rfl, rfl⟩, h2⟩
      | halt x w' => cases x <;> simp only [Oper.upon, Exit.then] at h1
    · exact h1.elim
  · rename_i hw
    rw [if_neg hw] at this
    exact this.2
/-- What is owed behind an effect. -/
def next (P : Program) (ops : Array Oper) (H : World → Prop) (Q : Exit → Act → World → Prop) (l : List (Nat × Nat)) (a : Act) (w : World) : Prop := H w ∧ walk P ops H Q l a w
theorem next_of (h1 : H w) (h2 : H w → walk P ops H Q l a w) : next P ops H Q l a w := ⟨h1, h2 h1⟩
/-- An effect. -/
theorem walk_eff (ho : lo[k]? = some o) (hw : H w)
    (h : ∀ K : Act → World → Prop, (∀ a w, next P lo.toArray H Q l a w → K a w) → wpList P lo.toArray (Exit.then K Q) [o] a w) : walk P lo.toArray H Q ((k, 2) :: l) a w := by
  have := h (fun a w => H w ∧ walk P lo.toArray H Q l a w) (fun _ _ h1 => h1)
  rw [walk]; simp only [at_list ho]
  simp only [wpList] at this
  split
  · rename_i hh; rw [if_pos hh] at this
    refine this.imp (fun h => ?_) (fun h => ⟨h.1, h.2⟩)
    unfold Oper.wp at *
    generalize (execOp a.eval o).run P w = r at *
    cases r with
    | ok n w' =>
      cases n <;> simp only [Oper.upon, Exit.then] at h ⊢ <;> first
        | exact h
        | exact Calls.mono h (fun e w'' he => by cases e <;> exact he)
    | halt x w' => cases x <;> simp only [Oper.upon, Exit.then] at h ⊢ <;> exact h
  · rename_i hh; rw [if_neg hh] at this; exact this.2
/-- A read among effects whose value is at hand: as if it were a move of this value. -/
theorem walk_wild_as (ho : lo[k]? = some o) (v : Value) (hv : ∀ W, H W → yields P o a W v)
    (h : ∀ K : Act → World → Prop, (∀ a, walk P lo.toArray H Q l a w → K a w) → wpList P lo.toArray (Exit.then K (fun _ _ _ => False)) [{ o with op := .move (.const v) }] a w) : walk P lo.toArray H Q ((k, 1) :: l) a w := by
  have := h (fun a' w' => w' = w ∧ walk P lo.toArray H Q l a' w) (fun _ h => ⟨rfl, h⟩)
  rw [walk]; simp only [at_list ho]
  simp only [wpList] at this
  have hwt : Region.wanted { o with op := .move (.const v) } (yielded lo.toArray a.tmps) = Region.wanted o (yielded lo.toArray a.tmps) := rfl
  rw [hwt] at this
  split
  · rename_i hw
    rw [if_pos hw] at this
    rcases this with h1 | ⟨_, _, _, h1⟩
    · exact ⟨v, hv, h1.2⟩
    · exact h1.elim
  · rename_i hw
    rw [if_neg hw] at this
    exact this.2
theorem yields_run {s : Sem Value} {o : Oper} {a : Act} {w : World} {v : Value} (he : execOp a.eval o = (do pure (Next.value (← s)) : Sem Next)) (hr : s.run P w = .ok v w) : yields P o a w v := by
  unfold yields
  rw [he, Sem.run_bind, hr]
  exact ⟨rfl, rfl⟩
section
variable {d : Option Tmp} {ty : TypeId} {pos : String} {af : Array Edge} {g : Option (Nat × Bool)} {v : Value} {x y : Operand} {ad ad' : Addr} {t : TypeId} {f : Nat} {vx vy : Value}
theorem wild_move (ho : lo[k]? = some ⟨d, .move x, ty, pos, af, g⟩) (hx : a.eval x = v)
    (h : ∀ K : Act → World → Prop, (∀ a, walk P lo.toArray H Q l a w → K a w) → wpList P lo.toArray (Exit.then K (fun _ _ _ => False)) [⟨d, .move (.const v), ty, pos, af, g⟩] a w) : walk P lo.toArray H Q ((k, 1) :: l) a w :=
  walk_wild_as ho v (fun W _ => ⟨rfl, hx⟩) h
theorem wild_fieldAddr (ho : lo[k]? = some ⟨d, .fieldAddr t x f, ty, pos, af, g⟩) (hx : a.eval x = .pointer (some ad)) (hr : ∀ W, (Instr.fieldAt t (.pointer (some ad)) f).run P W = .ok v W)
    (h : ∀ K : Act → World → Prop, (∀ a, walk P lo.toArray H Q l a w → K a w) → wpList P lo.toArray (Exit.then K (fun _ _ _ => False)) [⟨d, .move (.const v), ty, pos, af, g⟩] a w) : walk P lo.toArray H Q ((k, 1) :: l) a w :=
  walk_wild_as ho v (fun W _ => yields_run (s := Instr.fieldAt t (.pointer (some ad)) f) (by rw [← hx]; rfl) (hr W)) h
theorem call_yields {fn : FuncId} {args : List Operand} {ts : Array TypeId} {W : World} {v : Value} (hr : ∀ W, (callFunc fn (args.map a.eval).toArray).run P W = .ok (.enter fn (args.map a.eval).toArray) W)
    (hc : Calls P fn (args.map a.eval).toArray W (fun e w'' => e = .returned v ∧ W = w'')) : yields P ⟨d, .call { callee := .value (.func fn), args := args.toArray, argTypes := ts }, ty, pos, af, g⟩ a W v := by
  unfold yields
  have : (execOp a.eval ⟨d, .call { callee := .value (.func fn), args := args.toArray, argTypes := ts }, ty, pos, af, g⟩).run P W = .ok (.enter fn (args.map a.eval).toArray) W := by
    have hx : args.toArray.map a.eval = (args.map a.eval).toArray := by simp
    simp only [execOp, resolve, hx, Act.eval, Deferred.ofValue]
    rw [Sem.run_bind]
    simp only [Sem.run_pure, Result.andThen, invoke]
    simpa using hr W
  rw [this]
  exact ⟨rfl, hc⟩
theorem wild_call {fn : FuncId} {args : List Operand} {ts : Array TypeId} {v : Value} (ho : lo[k]? = some ⟨d, .call { callee := .value (.func fn), args := args.toArray, argTypes := ts }, ty, pos, af, g⟩)
    (hr : ∀ W, (callFunc fn (args.map a.eval).toArray).run P W = .ok (.enter fn (args.map a.eval).toArray) W) (hc : ∀ W, H W → Calls P fn (args.map a.eval).toArray W (fun e w'' => e = .returned v ∧ W = w''))
    (h : ∀ K : Act → World → Prop, (∀ a, walk P lo.toArray H Q l a w → K a w) → wpList P lo.toArray (Exit.then K (fun _ _ _ => False)) [⟨d, .move (.const v), ty, pos, af, g⟩] a w) : walk P lo.toArray H Q ((k, 1) :: l) a w :=
  walk_wild_as ho v (fun W hW => call_yields hr (hc W hW)) h
/-- A call that leaves the world alone, before which no effect can come up. -/
theorem calm_call {fn : FuncId} {args : List Operand} {ts : Array TypeId} {v : Value} (ho : lo[k]? = some ⟨d, .call { callee := .value (.func fn), args := args.toArray, argTypes := ts }, ty, pos, af, g⟩)
    (hr : ∀ W, (callFunc fn (args.map a.eval).toArray).run P W = .ok (.enter fn (args.map a.eval).toArray) W) (hc : Calls P fn (args.map a.eval).toArray w (fun e w'' => e = .returned v ∧ w = w''))
    (h : ∀ K : Act → World → Prop, (∀ a, walk P lo.toArray H Q l a w → K a w) → wpList P lo.toArray (Exit.then K (fun _ _ _ => False)) [⟨d, .move (.const v), ty, pos, af, g⟩] a w) : walk P lo.toArray H Q ((k, 0) :: l) a w := by
  have := h (fun a' w' => w' = w ∧ walk P lo.toArray H Q l a' w) (fun _ h => ⟨rfl, h⟩)
  rw [walk]; simp only [at_list ho]
  simp only [wpList] at this
  have hwt : Region.wanted ⟨d, .call { callee := .value (.func fn), args := args.toArray, argTypes := ts }, ty, pos, af, g⟩ (yielded lo.toArray a.tmps) = Region.wanted ⟨d, .move (.const v), ty, pos, af, g⟩ (yielded lo.toArray a.tmps) := rfl
  rw [hwt]
  split
  · rename_i hw
    rw [if_pos hw] at this
    rcases this with h1 | ⟨_, _, _, h1⟩
    · exact ⟨v, call_yields hr hc, h1.2⟩
    · exact h1.elim
  · rename_i hw
    rw [if_neg hw] at this
    exact this.2
/-- An operation that is passed over: its guard says no. -/
theorem calm_skip {o : Oper} (ho : lo[k]? = some o) (hw : Region.wanted o (yielded lo.toArray a.tmps) = false)
    (h : ∀ K : Act → World → Prop, (∀ a, walk P lo.toArray H Q l a w → K a w) → wpList P lo.toArray (Exit.then K (fun _ _ _ => False)) [{ o with op := .move (.const undef) }] a w) : walk P lo.toArray H Q ((k, 0) :: l) a w := by
  have := h (fun a' w' => w' = w ∧ walk P lo.toArray H Q l a' w) (fun _ h => ⟨rfl, h⟩)
  rw [walk]; simp only [at_list ho, hw, Bool.false_eq_true, if_false]
  simp only [wpList] at this
  have hwt : Region.wanted { o with op := .move (.const undef) } (yielded lo.toArray a.tmps) = Region.wanted o (yielded lo.toArray a.tmps) := rfl
  rw [hwt, hw] at this
  exact this.2
theorem wild_nilCheck (ho : lo[k]? = some ⟨d, .nilCheck x, ty, pos, af, g⟩) (hx : a.eval x = .pointer (some ad))
    (h : ∀ K : Act → World → Prop, (∀ a, walk P lo.toArray H Q l a w → K a w) → wpList P lo.toArray (Exit.then K (fun _ _ _ => False)) [⟨d, .move (.const (.pointer (some ad))), ty, pos, af, g⟩] a w) : walk P lo.toArray H Q ((k, 1) :: l) a w :=
  walk_wild_as ho _ (fun W _ => by unfold yields; simp only [execOp, hx]; exact ⟨rfl, rfl⟩) h
theorem wild_load (v : Value) (ho : lo[k]? = some ⟨d, .load t x, ty, pos, af, g⟩) (hx : a.eval x = .pointer (some ad)) (hr : ∀ W, H W → (loadVar t ad).run P W = .ok v W)
    (h : ∀ K : Act → World → Prop, (∀ a, walk P lo.toArray H Q l a w → K a w) → wpList P lo.toArray (Exit.then K (fun _ _ _ => False)) [⟨d, .move (.const v), ty, pos, af, g⟩] a w) : walk P lo.toArray H Q ((k, 1) :: l) a w :=
  walk_wild_as ho v (fun W hW => yields_run (s := Instr.loadAt t (.pointer (some ad))) (by rw [← hx]; rfl) (hr W hW)) h
end
/-- The guard: a read is next. -/
theorem at_calm (h : walk P lo.toArray H Q ((k, 0) :: l) a w) : walk P lo.toArray H Q ((k, 0) :: l) a w := h
/-- The guard: a read among effects is next. -/
theorem at_wild (h : walk P lo.toArray H Q ((k, 1) :: l) a w) : walk P lo.toArray H Q ((k, 1) :: l) a w := h
theorem walk_nil (h : Q .normal a w) : walk P lo.toArray H Q [] a w := h
end
attribute [go_sem] yields yieldUpon
end Go.Ord
namespace Go
/-- A cell behind a new block, whichever it is. -/
@[go_sem low] theorem World.cell?_alloc_ite (w : World) (c : Array Value) (t : TypeId) (b i : Nat) : (w.alloc (.cells c t)).cell? ⟨b, i, none⟩ = if b = w.heap.size then c[i]? else w.cell? ⟨b, i, none⟩ := by
  split
  · rename_i h; subst h; exact World.cell?_alloc_new w c t i
  · rename_i h; exact World.cell?_alloc_old w _ ⟨b, i, none⟩ h
@[go_sem low] theorem World.frozen?_alloc_ite (w : World) (c : Array Value) (t : TypeId) (b i : Nat) : (w.alloc (.cells c t)).frozen? ⟨b, i, none⟩ = if b = w.heap.size then false else w.frozen? ⟨b, i, none⟩ := by
  split
  · rename_i h; subst h; exact World.frozen?_alloc_new w c t i
  · rename_i h; exact World.frozen?_alloc_old w _ ⟨b, i, none⟩ h
end Go
