/- Parts of a proof: OrdW, OrdX. -/
import Derived.Test.YtjbjmoghloabpaaP24
set_option linter.unusedVariables false
set_option linter.unusedSimpArgs false
namespace Go.Ord
section
variable {P : Program} {ops : Array Oper} {Q : Exit → Act → World → Prop}
theorem any_invW {Inv : (Nat → Bool) → Act → World → Prop} (topo : ∀ (i : Nat) (o : Oper), ops[i]? = some o → ∀ e ∈ o.after, Region.binds .any e = true → e.on < i)
    (hstep : ∀ (i : Nat) (o : Oper) ls a w, ops[i]? = some o → ls i = false → (∀ e ∈ o.after, Region.binds .any e = true → ls e.on = true) → Inv ls a w → wpOp P ops Q i (Inv (upd ls i)) a w)
    (hend : ∀ ls a w, (∀ i, i < ops.size → ls i = true) → Inv ls a w → Q .normal a w) :
    ∀ (fuel : Nat) (listed : Array Bool) (a : Act) (w : World), listed.size = ops.size → unl ops.size listed ≤ fuel → Inv (fun j => listed.getD j false) a w → wpAny P .any ops Q fuel listed a w := by
  have hall : ∀ (listed : Array Bool), listed.size = ops.size → Region.ready .any ops listed = [] → ∀ i, i < ops.size → listed.getD i false = true := by
    intro listed hs hr i
    induction i using Nat.strongRecOn with
    | _ i ih =>
      intro hi
      cases hx : listed.getD i false with
      | true => rfl
      | false =>
        exfalso
        have : i ∈ Region.ready .any ops listed := by
          refine mem_ready.2 ⟨by rw [getD_sw (by rw [hs]; exact hi)]; exact hx, ops[i], by simp [hi], fun e he hbe => ?_⟩
          have hlt := topo i ops[i] (by simp [hi]) e he hbe
          exact ih e.on hlt (by omega)
        rw [hr] at this
        cases this
  intro fuel
  induction fuel with
  | zero =>
    intro listed a w hs hu hI
    have hr : Region.ready .any ops listed = [] := by
      apply List.eq_nil_iff_forall_not_mem.2
      intro i hi
      obtain ⟨h1, o, ho, -⟩ := mem_ready.1 hi
      have hlt : i < ops.size := (Array.getElem?_eq_some_iff.1 ho).1
      rw [getD_sw (by rw [hs]; exact hlt)] at h1
      have : i ∈ (List.range ops.size).filter fun i => !listed.getD i false := List.mem_filter.2 ⟨List.mem_range.2 hlt, by simp only [h1]; rfl⟩
      have h0 : ((List.range ops.size).filter fun i => !listed.getD i false) = [] := List.eq_nil_of_length_eq_zero (by unfold unl at hu; omega)
      rw [h0] at this
      cases this
    exact ⟨hr, hend _ a w (hall listed hs hr) hI⟩
  | succ fuel ih =>
    intro listed a w hs hu hI
    refine ⟨fun hr => hend _ a w (hall listed hs hr) hI, fun i hi => ?_⟩
    obtain ⟨h1, o, ho, hp⟩ := mem_ready.1 hi
    have hlt : i < ops.size := (Array.getElem?_eq_some_iff.1 ho).1
    rw [getD_sw (by rw [hs]; exact hlt)] at h1
    refine wpOp_mono' (fun a w h => ih (listed.setIfInBounds i true) a w (by simp [hs]) (by have := unl_set hlt (by rw [hs]; exact hlt) h1; omega) ?_) (hstep i o _ a w ho h1 hp hI)
    rw [upd_set (by rw [hs]; exact hlt)]
    exact h
/-- Operations stand behind those that bind them. -/
def topoW (lo : List Oper) : Bool := (List.range lo.length).all fun i => ((lo[i]?).map fun o => o.after.all fun e => !Region.binds .any e || decide (e.on < i)).getD true
theorem wp_regionJ {id : Nat} {a : Act} {w : World} {lo : List Oper} (Inv : (Nat → Bool) → Act → World → Prop) (hm : P.follows .mixedOrders = true) (ht : topoW lo = true) (h0 : Inv (fun _ => false) a w.drew)
    (hstep : ∀ i, i < lo.length → ∀ ls a w, ls i = false → predsB lo ls i = true → Inv ls a w → walk P lo.toArray (fun _ => True) (Qn Q (Inv (upd ls i))) [(i, 2)] a w)
    (hend : ∀ ls a w, (∀ i, i < lo.length → ls i = true) → Inv ls a w → Q .normal a w) : (Code.region id lo.toArray true).wp P Q a w := by
  refine wp_region_any hm (any_invW (Inv := Inv) ?_ ?_ (fun ls a w h hI => hend ls a w (by simpa using h) hI) _ _ a _ (by simp) ?_ ?_)
  · intro i o ho e he hbe
    have hlt : i < lo.length := by have := (Array.getElem?_eq_some_iff.1 ho).1; simpa using this
    unfold topoW at ht
    have h1 := List.all_eq_true.1 ht i (List.mem_range.2 hlt)
    have ho' : lo[i]? = some o := by simpa using ho
    rw [ho'] at h1
    simp only [Option.map_some, Option.getD_some] at h1
    have h2 := Array.all_eq_true_iff_forall_mem.1 h1 e he
    simpa [hbe] using h2
  · intro i o ls a w ho hi hp hI
    have hlt : i < lo.length := by have := (Array.getElem?_eq_some_iff.1 ho).1; simpa using this
    have ho' : lo[i]? = some o := by simpa using ho
    refine wpOp_of_walk (hstep i hlt ls a w hi ?_ hI)
    unfold predsB
    rw [ho']
    simp only [Option.map_some, Option.getD_some]
    refine Array.all_eq_true_iff_forall_mem.2 fun e he => ?_
    cases hb : Region.binds .any e with
    | false => rfl
    | true => simp [hp e he hb]
  · unfold unl
    exact Nat.le_trans (List.length_filter_le _ _) (by simp)
  · have : (fun j => (Array.replicate lo.toArray.size false).getD j false) = fun _ => false := by
      funext j
      by_cases h : j < lo.length <;> simp [h]
    rw [this]; exact h0
end
variable {P : Program} {Q : Exit → Act → World → Prop}
def setV (vals : Nat → Value) (i : Nat) (v : Value) : Nat → Value := fun j => if j = i then v else vals j
/-- j has come up whenever i has. -/
def ancB (lo : List Oper) : Nat → Nat → Nat → Bool
  | 0, _, _ => false
  | f + 1, i, j => ((lo[i]?).map fun o => o.after.any fun e => Region.binds .any e && (e.on == j || ancB lo f e.on j)).getD false
theorem closed_anc {lo : List Oper} {ls : Nat → Bool} (ht : topoW lo = true) (hc : ∀ i, i < lo.length → ls i = true → predsB lo ls i = true) : ∀ f i j, i < lo.length → predsB lo ls i = true → ancB lo f i j = true → j < lo.length ∧ ls j = true
  | 0, _, _, _, _, h => by simp [ancB] at h
  | f + 1, i, j, hi, hp, h => by
    have ho : lo[i]? = some lo[i] := List.getElem?_eq_getElem hi
    simp only [ancB, ho, Option.map_some, Option.getD_some] at h
    obtain ⟨k, hk, h1⟩ := Array.any_eq_true.1 h
    obtain ⟨e, he0⟩ : ∃ e, e = lo[i].after[k] := ⟨_, rfl⟩
    have he : e ∈ lo[i].after := by rw [he0]; exact Array.getElem_mem hk
    rw [← he0] at h1
    simp only [Bool.and_eq_true, Bool.or_eq_true, beq_iff_eq] at h1
    have h2 : e.on < i := by
      unfold topoW at ht
      have h3 := List.all_eq_true.1 ht i (List.mem_range.2 hi)
      rw [ho] at h3
      simp only [Option.map_some, Option.getD_some] at h3
      have h4 := Array.all_eq_true_iff_forall_mem.1 h3 e he
      rw [h1.1] at h4
      simpa using h4
    have h4 : ls e.on = true := by
      unfold predsB at hp
      rw [ho] at hp
      simp only [Option.map_some, Option.getD_some] at hp
      have := Array.all_eq_true_iff_forall_mem.1 hp e he
      rw [h1.1] at this
      simpa using this
    rcases h1.2 with rfl | h5
    · exact ⟨by omega, h4⟩
    · exact closed_anc ht hc f e.on j (by omega) (hc _ (by omega) h4) h5
/-- What the operations of a region do. -/
structure Tk where
  n0 : Nat
  F : (Nat → Value) → Array Value
  ds : List Deferred
  H : World → Prop
  rd : Nat → Option Value
  use : Nat → List Nat
  take : Nat → List Nat
  T : Nat → Value → List Nat → World → Prop
  init : List Nat
  lk : Nat → Option Nat := fun _ => none
def Tk.live (t : Tk) (n : Nat) (ls : Nat → Bool) (i : Nat) : Prop := (i ∈ t.init ∨ (i < n ∧ ls i = true)) ∧ ∀ c, c < n → i ∈ t.take c → ls c = false
/-- An operation has come up. -/
def Tk.Step (t : Tk) (i : Nat) (vals : Nat → Value) (bs : Nat → List Nat) (w : World) (a' : Act) (w' : World) : Prop :=
  ∃ v bs', a' = ⟨t.F (setV vals i v), t.ds⟩ ∧ t.H w' ∧ (∀ u, t.rd i = some u → v = u) ∧ t.T i v bs' w' ∧ (∀ k ∈ bs', t.n0 ≤ k ∧ k < w'.heap.size ∧ (w.heap.size ≤ k ∨ ∃ j ∈ t.take i, k ∈ bs j)) ∧ w.heap.size ≤ w'.heap.size ∧
    (∀ k, k < w.heap.size → (∀ j ∈ t.take i, k ∉ bs j) → w'.heap[k]? = w.heap[k]?) ∧ ∀ j, t.lk i = some j → v = vals j
def Tk.Inv (t : Tk) (lo : List Oper) (ls : Nat → Bool) (a : Act) (w : World) : Prop :=
  ∃ (vals : Nat → Value) (bs : Nat → List Nat), a = ⟨t.F vals, t.ds⟩ ∧ t.H w ∧ (∀ i, i < lo.length → ls i = true → predsB lo ls i = true) ∧ (∀ i, i < lo.length → ls i = true → ∀ u, t.rd i = some u → vals i = u) ∧
    (∀ i, t.live lo.length ls i → t.T i (vals i) (bs i) w ∧ ∀ k ∈ bs i, t.n0 ≤ k ∧ k < w.heap.size) ∧ (∀ i j, t.live lo.length ls i → t.live lo.length ls j → i ≠ j → ∀ k ∈ bs i, k ∉ bs j) ∧ ∀ i, i < lo.length → ls i = true → ∀ j, t.lk i = some j → vals i = vals j
/-- Whatever an operation looks at is there. -/
def Tk.chk0 (t : Tk) (lo : List Oper) : Bool := (List.range lo.length).all fun i => (t.use i).all fun j =>
  (t.init.contains j || ancB lo lo.length i j) && (List.range lo.length).all fun c => !(t.take c).contains j || (c == i || ancB lo lo.length c i)
def Tk.lkok (t : Tk) (lo : List Oper) : Bool := (List.range lo.length).all fun i => match t.lk i with
  | some j => decide (j < lo.length) && ancB lo lo.length i j
  | none => true
def Tk.chk (t : Tk) (lo : List Oper) : Bool := t.chk0 lo && t.lkok lo
def Tk.sub (t : Tk) (lo : List Oper) : Bool := (List.range lo.length).all fun i => (t.take i).all fun j => (t.use i).contains j
theorem predsB_upd {lo : List Oper} {ls : Nat → Bool} {i k : Nat} (h : predsB lo ls k = true) : predsB lo (upd ls i) k = true := by
  unfold predsB at *
  cases ho : lo[k]? with
  | none => rw [ho] at h; exact h
  | some o =>
    rw [ho] at h
    simp only [Option.map_some, Option.getD_some] at h ⊢
    refine Array.all_eq_true_iff_forall_mem.2 fun e he => ?_
    have := Array.all_eq_true_iff_forall_mem.1 h e he
    unfold upd
    cases hb : Region.binds .any e
    · simp
    · rw [hb] at this; simp at this; simp [this]
theorem Tk.step {t : Tk} {lo : List Oper} (ht : topoW lo = true) (hc : t.chk lo = true) (hsub : t.sub lo = true) (hini : ∀ j ∈ t.init, lo.length ≤ j) (hT : ∀ i v bs w w', (∀ k ∈ bs, w'.heap[k]? = w.heap[k]?) → t.T i v bs w → t.T i v bs w')
    (hstep : ∀ i, i < lo.length → ∀ (vals : Nat → Value) (bs : Nat → List Nat) (w : World), t.H w → (∀ j, j < lo.length → ancB lo lo.length i j = true → ∀ u, t.rd j = some u → vals j = u) → (∀ j ∈ t.use i, t.T j (vals j) (bs j) w ∧ ∀ k ∈ bs j, t.n0 ≤ k ∧ k < w.heap.size) →
      (∀ j ∈ t.use i, ∀ j' ∈ t.use i, j ≠ j' → ∀ k ∈ bs j, k ∉ bs j') → ∀ R : Act → World → Prop, (∀ a' w', t.Step i vals bs w a' w' → R a' w') → walk P lo.toArray (fun _ => True) (Qn Q R) [(i, 2)] ⟨t.F vals, t.ds⟩ w)
    (i : Nat) (hi : i < lo.length) (ls : Nat → Bool) (a : Act) (w : World) (hl : ls i = false) (hp : predsB lo ls i = true) (hI : t.Inv lo ls a w) : walk P lo.toArray (fun _ => True) (Qn Q (t.Inv lo (upd ls i))) [(i, 2)] a w := by
  obtain ⟨vals, bs, rfl, hH, hcl, hrd, htok, hdis, hlk⟩ := hI
  unfold Tk.chk at hc
  rw [Bool.and_eq_true] at hc
  obtain ⟨hc, hck⟩ := hc
  have hanc : ∀ k, k < lo.length → ∀ j, t.lk k = some j → j < lo.length ∧ ancB lo lo.length k j = true := fun k hk j e => by
    unfold Tk.lkok at hck
    have := List.all_eq_true.1 hck k (List.mem_range.2 hk)
    rw [e] at this
    simpa using this
  have hlive : ∀ j ∈ t.use i, t.live lo.length ls j := fun j hj => by
    unfold Tk.chk0 at hc
    have h1 := List.all_eq_true.1 (List.all_eq_true.1 hc i (List.mem_range.2 hi)) j hj
    simp only [Bool.and_eq_true, Bool.or_eq_true] at h1
    refine ⟨?_, fun c hcl2 hcj => ?_⟩
    · rcases h1.1 with h2 | h2
      · exact .inl (by simpa using h2)
      · exact .inr (closed_anc ht hcl _ _ _ hi hp h2)
    · have h2 := List.all_eq_true.1 h1.2 c (List.mem_range.2 hcl2)
      simp only [Bool.or_eq_true, Bool.not_eq_true', beq_iff_eq] at h2
      rcases h2 with h2 | h2 | h2
      · rw [List.contains_iff_mem.2 hcj] at h2; cases h2
      · rw [h2]; exact hl
      · cases hx : ls c with
        | false => rfl
        | true =>
          have := (closed_anc ht hcl _ _ _ hcl2 (hcl c hcl2 hx) h2).2
          rw [hl] at this; cases this
  refine hstep i hi vals bs w hH (fun j hj ha u hu => hrd j hj (closed_anc ht hcl _ _ _ hi hp ha).2 u hu) (fun j hj => htok j (hlive j hj)) (fun j hj j' hj' hne => hdis j j' (hlive j hj) (hlive j' hj') hne) _ ?_
  rintro a' w' ⟨v, bs', rfl, hH', hv, hTi, hbs, hsz, hoth, hvl⟩
  have htk : ∀ j ∈ t.take i, j ∈ t.use i := fun j hj => by
    have := List.all_eq_true.1 (List.all_eq_true.1 hsub i (List.mem_range.2 hi)) j hj
    simpa using this
  -- a token that is alive behind the operation, but not its own, was alive ahead of it, and is not taken
  have hold : ∀ j, j ≠ i → t.live lo.length (upd ls i) j → t.live lo.length ls j ∧ j ∉ t.take i := fun j hji h => by
    refine ⟨⟨h.1.imp id fun ⟨h1, h2⟩ => ⟨h1, by simpa [upd, hji] using h2⟩, fun c hc1 hc2 => ?_⟩, fun hj => ?_⟩
    · have := h.2 c hc1 hc2
      unfold upd at this
      simp only [Bool.or_eq_false_iff] at this
      exact this.2
    · have := h.2 i hi hj
      simp [upd] at this
  have hkeep : ∀ j, t.live lo.length ls j → j ∉ t.take i → ∀ k ∈ bs j, w'.heap[k]? = w.heap[k]? := fun j hj hjt k hk =>
    hoth k ((htok j hj).2 k hk).2 fun j' hj' hk' => hdis j j' hj (hlive j' (htk j' hj')) (fun e => hjt (e ▸ hj')) k hk hk'
  refine ⟨setV vals i v, fun j => if j = i then bs' else bs j, rfl, hH', fun k hk hks => ?_, fun k hk hks u hu => ?_, fun k hk => ?_, fun j k hj hk hne b hb hb2 => ?_, fun k hk hks j e => ?_⟩
  · by_cases hki : k = i
    · subst hki; exact predsB_upd hp
    · exact predsB_upd (hcl k hk (by simpa [upd, hki] using hks))
  · by_cases hki : k = i
    · subst hki; simp only [setV, if_true]; exact hv u hu
    · simp only [setV, hki, if_false]
      exact hrd k hk (by simpa [upd, hki] using hks) u hu
  · by_cases hki : k = i
    · subst hki
      simp only [setV, if_true]
      exact ⟨hTi, fun b hb => ⟨(hbs b hb).1, (hbs b hb).2.1⟩⟩
    · obtain ⟨h1, h2⟩ := hold k hki hk
      simp only [setV, hki, if_false]
      have h3 := htok k h1
      exact ⟨hT _ _ _ _ _ (hkeep k h1 h2) h3.1, fun b hb => ⟨(h3.2 b hb).1, Nat.lt_of_lt_of_le (h3.2 b hb).2 hsz⟩⟩
  · have hown : ∀ j, j ≠ i → t.live lo.length (upd ls i) j → ∀ b ∈ bs j, b ∉ bs' := fun j hji hj b hb hb' => by
      obtain ⟨h1, h2⟩ := hold j hji hj
      rcases (hbs b hb').2.2 with h3 | ⟨j', hj', h3⟩
      · have := ((htok j h1).2 b hb).2; omega
      · exact hdis j j' h1 (hlive j' (htk j' hj')) (fun e => h2 (e ▸ hj')) b hb h3
    by_cases hji : j = i
    · subst hji
      have hkj : k ≠ j := fun e => hne e.symm
      simp only [if_true] at hb
      simp only [hkj, if_false] at hb2
      exact hown k hkj hk b hb2 hb
    · simp only [hji, if_false] at hb
      by_cases hki : k = i
      · subst hki
        simp only [if_true] at hb2
        exact hown j hji hj b hb hb2
      · simp only [hki, if_false] at hb2
        exact hdis j k (hold j hji hj).1 (hold k hki hk).1 hne b hb hb2
  · obtain ⟨hj, ha⟩ := hanc k hk j e
    by_cases hki : k = i
    · subst hki
      have hjl := (closed_anc ht hcl _ _ _ hk hp ha).2
      have hji : j ≠ k := fun e2 => by rw [e2, hl] at hjl; cases hjl
      simp only [setV, if_true, hji, if_false]
      exact hvl j e
    · have hkl : ls k = true := by simpa [upd, hki] using hks
      have hjl := (closed_anc ht hcl _ _ _ hk (hcl k hk hkl) ha).2
      have hji : j ≠ i := fun e2 => by rw [e2, hl] at hjl; cases hjl
      simp only [setV, hki, if_false, hji]
      exact hlk k hk hkl j e
/-- What holds at the end. -/
theorem Tk.fin {t : Tk} {lo : List Oper} (hend : ∀ (vals : Nat → Value) (bs : Nat → List Nat) (w : World), t.H w → (∀ j, j < lo.length → ∀ u, t.rd j = some u → vals j = u) → (∀ j, (j ∈ t.init ∨ j < lo.length) → (∀ c, c < lo.length → j ∉ t.take c) → t.T j (vals j) (bs j) w ∧ ∀ k ∈ bs j, t.n0 ≤ k ∧ k < w.heap.size) →
      (∀ i j, (i ∈ t.init ∨ i < lo.length) → (∀ c, c < lo.length → i ∉ t.take c) → (j ∈ t.init ∨ j < lo.length) → (∀ c, c < lo.length → j ∉ t.take c) → i ≠ j → ∀ k ∈ bs i, k ∉ bs j) → (∀ j, j < lo.length → ∀ k, t.lk j = some k → vals j = vals k) → Q .normal ⟨t.F vals, t.ds⟩ w)
    (ls : Nat → Bool) (a : Act) (w : World) (h : ∀ i, i < lo.length → ls i = true) (hI : t.Inv lo ls a w) : Q .normal a w := by
  obtain ⟨vals, bs, rfl, hH, hcl, hrd, htok, hdis, hlk⟩ := hI
  have hl : ∀ j, (j ∈ t.init ∨ j < lo.length) → (∀ c, c < lo.length → j ∉ t.take c) → t.live lo.length ls j := fun j h1 h2 => ⟨h1.imp id fun h3 => ⟨h3, h j h3⟩, fun c hc hj => absurd hj (h2 c hc)⟩
  exact hend vals bs w hH (fun j hj u hu => hrd j hj (h j hj) u hu) (fun j h1 h2 => htok j (hl j h1 h2)) (fun i j h1 h2 h3 h4 hne => hdis i j (hl i h1 h2) (hl j h3 h4) hne) (fun j hj k e => hlk j hj (h j hj) k e)
theorem Tk.start {t : Tk} {lo : List Oper} (hini : ∀ j ∈ t.init, lo.length ≤ j) {a : Act} {w : World} (vals : Nat → Value) (bs : Nat → List Nat) (ha : a = ⟨t.F vals, t.ds⟩) (hH : t.H w) (h0 : ∀ j ∈ t.init, t.T j (vals j) (bs j) w ∧ ∀ k ∈ bs j, t.n0 ≤ k ∧ k < w.heap.size)
    (hd : ∀ i ∈ t.init, ∀ j ∈ t.init, i ≠ j → ∀ k ∈ bs i, k ∉ bs j) : t.Inv lo (fun _ => false) a w := by
  have hl : ∀ i, t.live lo.length (fun _ => false) i → i ∈ t.init := fun i h => by
    rcases h.1 with h1 | h1
    · exact h1
    · cases h1.2
  exact ⟨vals, bs, ha, hH, fun _ _ h => (by cases h), fun _ _ h => (by cases h), fun i h => h0 i (hl i h), fun i j hi hj => hd i (hl i hi) j (hl j hj), fun _ _ h => (by cases h)⟩
theorem wp_regionW {id : Nat} {a : Act} {w : World} {lo : List Oper} (t : Tk) (hm : P.follows .mixedOrders = true) (ht : topoW lo = true) (hc : t.chk lo = true) (hsub : t.sub lo = true) (hini : ∀ j ∈ t.init, lo.length ≤ j) (hT : ∀ i v bs w w', (∀ k ∈ bs, w'.heap[k]? = w.heap[k]?) → t.T i v bs w → t.T i v bs w')
    (vals : Nat → Value) (bs : Nat → List Nat) (ha : a = ⟨t.F vals, t.ds⟩) (hH : t.H w.drew) (h0 : ∀ j ∈ t.init, t.T j (vals j) (bs j) w.drew ∧ ∀ k ∈ bs j, t.n0 ≤ k ∧ k < w.drew.heap.size) (hd : ∀ i ∈ t.init, ∀ j ∈ t.init, i ≠ j → ∀ k ∈ bs i, k ∉ bs j)
    (hstep : ∀ i, i < lo.length → ∀ (vals : Nat → Value) (bs : Nat → List Nat) (w : World), t.H w → (∀ j, j < lo.length → ancB lo lo.length i j = true → ∀ u, t.rd j = some u → vals j = u) → (∀ j ∈ t.use i, t.T j (vals j) (bs j) w ∧ ∀ k ∈ bs j, t.n0 ≤ k ∧ k < w.heap.size) →
      (∀ j ∈ t.use i, ∀ j' ∈ t.use i, j ≠ j' → ∀ k ∈ bs j, k ∉ bs j') → ∀ R : Act → World → Prop, (∀ a' w', t.Step i vals bs w a' w' → R a' w') → walk P lo.toArray (fun _ => True) (Qn Q R) [(i, 2)] ⟨t.F vals, t.ds⟩ w)
    (hend : ∀ (vals : Nat → Value) (bs : Nat → List Nat) (w : World), t.H w → (∀ j, j < lo.length → ∀ u, t.rd j = some u → vals j = u) → (∀ j, (j ∈ t.init ∨ j < lo.length) → (∀ c, c < lo.length → j ∉ t.take c) → t.T j (vals j) (bs j) w ∧ ∀ k ∈ bs j, t.n0 ≤ k ∧ k < w.heap.size) →
      (∀ i j, (i ∈ t.init ∨ i < lo.length) → (∀ c, c < lo.length → i ∉ t.take c) → (j ∈ t.init ∨ j < lo.length) → (∀ c, c < lo.length → j ∉ t.take c) → i ≠ j → ∀ k ∈ bs i, k ∉ bs j) → (∀ j, j < lo.length → ∀ k, t.lk j = some k → vals j = vals k) → Q .normal ⟨t.F vals, t.ds⟩ w) : (Code.region id lo.toArray true).wp P Q a w :=
  wp_regionJ (t.Inv lo) hm ht (Tk.start hini vals bs ha hH h0 hd) (Tk.step ht hc hsub hini hT hstep) (Tk.fin hend)
end Go.Ord
set_option linter.unusedVariables false
set_option linter.unusedSimpArgs false
namespace Go.Ord
def dstO (lo : List Oper) (i : Nat) : Option Nat := (lo[i]?).bind (·.dst)
/-- Which operation writes a slot. -/
def soL (lo : List Oper) (j : Nat) : Option Nat := (List.range lo.length).find? fun i => dstO lo i == some j
/-- No slot is written twice. -/
def okD (lo : List Oper) : Bool := (List.range lo.length).all fun i => (List.range lo.length).all fun k => i == k || dstO lo i != dstO lo k || dstO lo i == none
theorem soL_dst {lo : List Oper} {i j : Nat} (h : soL lo j = some i) : i < lo.length ∧ dstO lo i = some j := by
  unfold soL at h
  have h1 := List.find?_some h
  have h2 := List.mem_of_find?_eq_some h
  exact ⟨List.mem_range.1 h2, by simpa using h1⟩
theorem soL_of {lo : List Oper} (ok : okD lo = true) {i j : Nat} (hi : i < lo.length) (h : dstO lo i = some j) : soL lo j = some i := by
  cases hs : soL lo j with
  | none =>
    unfold soL at hs
    rw [List.find?_eq_none] at hs
    have := hs i (List.mem_range.2 hi)
    rw [h] at this
    simp at this
  | some k =>
    obtain ⟨hk, hd⟩ := soL_dst hs
    unfold okD at ok
    have h1 := List.all_eq_true.1 (List.all_eq_true.1 ok i (List.mem_range.2 hi)) k (List.mem_range.2 hk)
    rw [h, hd] at h1
    simp at h1
    rw [h1]
def frL (so : Nat → Option Nat) (vals : Nat → Value) : Nat → List Value → List Value
  | _, [] => []
  | j, x :: r => (match so j with | some i => vals i | none => x) :: frL so vals (j + 1) r
/-- The frame with the results of the operations that have come up. -/
def Fr (lo : List Oper) (tm : Array Value) (vals : Nat → Value) : Array Value := (frL (soL lo) vals 0 tm.toList).toArray
theorem frL_get (so : Nat → Option Nat) (vals : Nat → Value) : ∀ (l : List Value) (j k : Nat), (frL so vals j l)[k]? = (l[k]?).map fun x => match so (j + k) with | some i => vals i | none => x
  | [], _, _ => by simp [frL]
  | x :: r, j, 0 => by simp [frL]
  | x :: r, j, k + 1 => by
    simp only [frL, List.getElem?_cons_succ]
    rw [frL_get so vals r (j + 1) k, show j + 1 + k = j + (k + 1) by omega]
theorem Fr_get (lo : List Oper) (tm : Array Value) (vals : Nat → Value) (k : Nat) : (Fr lo tm vals)[k]? = (tm[k]?).map fun x => match soL lo k with | some i => vals i | none => x := by
  unfold Fr
  rw [List.getElem?_toArray, frL_get, Nat.zero_add, Array.getElem?_toList]
theorem Fr_old {lo : List Oper} {tm : Array Value} {vals : Nat → Value} {ds : List Deferred} {k : Nat} {v : Value} (hs : soL lo k = none) (h : tm[k]? = some v) : (Act.mk (Fr lo tm vals) ds).eval (.tmp k) = v := by
  show (Fr lo tm vals).getD k undef = v
  rw [Array.getD_eq_getD_getElem?, Fr_get, h, hs]
  rfl
theorem Fr_new {lo : List Oper} {tm : Array Value} {vals : Nat → Value} {ds : List Deferred} {k i : Nat} (hs : soL lo k = some i) (h : k < tm.size) : (Act.mk (Fr lo tm vals) ds).eval (.tmp k) = vals i := by
  show (Fr lo tm vals).getD k undef = _
  rw [Array.getD_eq_getD_getElem?, Fr_get, Array.getElem?_eq_getElem h, hs]
  rfl
theorem Fr_put {lo : List Oper} (ok : okD lo = true) {tm : Array Value} {vals : Nat → Value} {ds : List Deferred} {i : Nat} (hi : i < lo.length) (v : Value) : (Act.mk (Fr lo tm vals) ds).put (dstO lo i) v = ⟨Fr lo tm (setV vals i v), ds⟩ := by
  cases hd : dstO lo i with
  | none =>
    show Act.mk (Fr lo tm vals) ds = _
    congr 1
    refine Array.ext_getElem? fun k => ?_
    rw [Fr_get, Fr_get]
    congr 1
    funext x
    cases hs : soL lo k with
    | none => rfl
    | some j =>
      simp only [setV]
      have := soL_dst hs
      rw [if_neg (fun e => by rw [e] at this; rw [hd] at this; cases this.2)]
  | some s =>
    show Act.mk ((Fr lo tm vals).setIfInBounds s v) ds = _
    congr 1
    refine Array.ext_getElem? fun k => ?_
    rw [Array.getElem?_setIfInBounds, Fr_get, Fr_get]
    by_cases hk : s = k
    · subst hk
      rw [if_pos rfl, soL_of ok hi hd]
      by_cases hb : s < (Fr lo tm vals).size
      · rw [if_pos hb]
        have h1 : (Fr lo tm vals)[s]? ≠ none := by rw [Array.getElem?_eq_getElem hb]; simp
        rw [Fr_get] at h1
        cases ht : tm[s]? with
        | none => rw [ht] at h1; exact absurd rfl h1
        | some x => simp [setV]
      · rw [if_neg hb]
        have h1 : (Fr lo tm vals)[s]? = none := Array.getElem?_eq_none (by omega)
        rw [Fr_get] at h1
        cases ht : tm[s]? with
        | none => rfl
        | some x => rw [ht] at h1; cases h1
    · rw [if_neg hk]
      congr 1
      funext x
      cases hs : soL lo k with
      | none => rfl
      | some j =>
        simp only [setV]
        have := soL_dst hs
        rw [if_neg (fun e => by rw [e] at this; rw [hd] at this; simp only [Option.some.injEq] at this; exact hk this.2)]
/-- The frame as it was. -/
def valsO (lo : List Oper) (tm : Array Value) (i : Nat) : Value := ((dstO lo i).bind fun s => tm[s]?).getD undef
theorem Fr_start (lo : List Oper) (tm : Array Value) (ds : List Deferred) : Act.mk tm ds = ⟨Fr lo tm (valsO lo tm), ds⟩ := by
  congr 1
  refine Array.ext_getElem? fun k => ?_
  rw [Fr_get]
  cases ht : tm[k]? with
  | none => rfl
  | some x =>
    simp only [Option.map_some]
    congr 1
    cases hs : soL lo k with
    | none => rfl
    | some i =>
      have := soL_dst hs
      simp only [valsO, this.2, Option.bind_some, ht, Option.getD_some]
theorem walk_one {P : Program} {Q : Exit → Act → World → Prop} {lo : List Oper} {R : Act → World → Prop} {i : Nat} {a : Act} {w : World} {o : Oper} (ho : lo[i]? = some o) (h : ∀ K : Act → World → Prop, (∀ a w, R a w → K a w) → wpList P lo.toArray (Exit.then K (Qn Q R)) [o] a w) : walk P lo.toArray (fun _ => True) (Qn Q R) [(i, 2)] a w :=
  walk_eff ho trivial fun K hK => h K fun a w hr => hK a w ⟨trivial, walk_nil (show Qn Q R .normal a w from hr)⟩
end Go.Ord
