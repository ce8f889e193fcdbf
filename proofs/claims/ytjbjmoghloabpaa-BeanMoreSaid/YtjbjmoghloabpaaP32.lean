/- Parts of a proof: Tok2, MoreR. -/
import Derived.Test.YtjbjmoghloabpaaP26
import Derived.Test.YtjbjmoghloabpaaP30
set_option linter.unusedVariables false
set_option linter.unusedSimpArgs false
namespace Go.Proofs.Ytjbjmoghloabpaa
open Go.RowKit Go.Proofs
attribute [local irreducible] Ord.walk
theorem yielded_Fr {lo : List Oper} (ok : Ord.okD lo = true) {tm : Array Value} {vals : Nat → Value} {j d : Nat} {o : Oper} (ho : lo[j]? = some o) (hd : o.dst = some d) (hs : d < tm.size) {b : Bool} (hv : vals j = .bool b) : yielded lo.toArray (Ord.Fr lo tm vals) j = some b := by
  have hj : j < lo.length := (List.getElem?_eq_some_iff.1 ho).1
  have h1 : Ord.dstO lo j = some d := by unfold Ord.dstO; rw [ho]; exact hd
  have h2 := Ord.soL_of ok hj h1
  unfold yielded
  have h3 : lo.toArray[j]? = some o := by simpa using ho
  rw [h3]
  show (match (o.dst).bind (fun x => (Ord.Fr lo tm vals)[x]?) with | some (.bool b) => some b | _ => none) = some b
  rw [hd]
  show (match (Ord.Fr lo tm vals)[d]? with | some (.bool b) => some b | _ => none) = some b
  rw [Ord.Fr_get, Array.getElem?_eq_getElem hs, h2]
  simp [hv]
section
variable {P : Program} {Q : Exit → Act → World → Prop} {t : Ord.Tk} {lo : List Oper} {tm : Array Value} {i : Nat} {vals : Nat → Value} {bs : Nat → List Nat} {w : World} {R : Act → World → Prop}
/-- An operation that is not wanted. -/
theorem st_skip (ok : Ord.okD lo = true) (hF : ∀ vals, t.F vals = Ord.Fr lo tm vals) {o og : Oper} (ho : lo[i]? = some o) {j d : Nat} {b c : Bool} (hg : o.guard = some (j, c)) (hog : lo[j]? = some og) (hd : og.dst = some d) (hs : d < tm.size) (hv : vals j = .bool b) (hne : b ≠ c)
    (hR : R ⟨t.F (Ord.setV vals i undef), t.ds⟩ w) : Ord.walk P lo.toArray (fun _ => True) (Ord.Qn Q R) [(i, 2)] ⟨t.F vals, t.ds⟩ w := by
  refine Ord.walk_one ho fun K hK => wpList_skip ?_ ?_
  · show Region.wanted o (yielded lo.toArray (t.F vals)) = false
    unfold Region.wanted
    rw [hg]
    show (yielded lo.toArray (t.F vals) j == some c) = false
    rw [hF, yielded_Fr ok hog hd hs hv]
    simpa using hne
  · rw [put_of ok hF ho]
    exact wpList_nil (show K _ _ from hK _ _ hR)
/-- An operation with a guard that is wanted. -/
theorem st_semG (ok : Ord.okD lo = true) (hF : ∀ vals, t.F vals = Ord.Fr lo tm vals) {o og : Oper} (ho : lo[i]? = some o) {j d : Nat} {b : Bool} (hg : o.guard = some (j, b)) (hog : lo[j]? = some og) (hd : og.dst = some d) (hs : d < tm.size) (hv : vals j = .bool b) {w' : World} {v : Value} {s : Sem Value} (he : execOp (Act.mk (t.F vals) t.ds).eval o = (do pure (Next.value (← s)) : Sem Next)) (hr : s.run P w = .ok v w')
    (hR : R ⟨t.F (Ord.setV vals i v), t.ds⟩ w') : Ord.walk P lo.toArray (fun _ => True) (Ord.Qn Q R) [(i, 2)] ⟨t.F vals, t.ds⟩ w := by
  refine Ord.walk_one ho fun K hK => wpList_step fun K' hK' => ?_
  have hw : Region.wanted o (yielded lo.toArray (t.F vals)) = true := by
    unfold Region.wanted
    rw [hg]
    show (yielded lo.toArray (t.F vals) j == some b) = true
    rw [hF, yielded_Fr ok hog hd hs hv]
    simp
  rw [if_pos hw]
  unfold Oper.wp
  rw [he, Sem.run_bind, hr]
  show K' ((Act.mk (t.F vals) t.ds).put o.dst v) w'
  rw [put_of ok hF ho]
  exact hK' _ _ (wpList_nil (show K _ _ from hK _ _ hR))
end
end Go.Proofs.Ytjbjmoghloabpaa
namespace Go.Ord
section
variable {P : Program} {Q : Exit → Act → World → Prop}
def Tk.InvU (t : Tk) (v0 : Nat → Value) (lo : List Oper) (ls : Nat → Bool) (a : Act) (w : World) : Prop :=
  ∃ (vals : Nat → Value) (bs : Nat → List Nat), a = ⟨t.F vals, t.ds⟩ ∧ t.H w ∧ (∀ i, i < lo.length → ls i = true → predsB lo ls i = true) ∧ (∀ i, i < lo.length → ls i = true → ∀ u, t.rd i = some u → vals i = u) ∧
    (∀ i, t.live lo.length ls i → t.T i (vals i) (bs i) w ∧ ∀ k ∈ bs i, t.n0 ≤ k ∧ k < w.heap.size) ∧ (∀ i j, t.live lo.length ls i → t.live lo.length ls j → i ≠ j → ∀ k ∈ bs i, k ∉ bs j) ∧ (∀ i, i < lo.length → ls i = true → ∀ j, t.lk i = some j → vals i = vals j) ∧ (∀ i, i < lo.length → ls i = false → vals i = v0 i)
theorem Tk.stepU {t : Tk} {v0 : Nat → Value} {lo : List Oper} (ht : topoW lo = true) (hc : t.chk lo = true) (hsub : t.sub lo = true) (hini : ∀ j ∈ t.init, lo.length ≤ j) (hT : ∀ i v bs w w', (∀ k ∈ bs, w'.heap[k]? = w.heap[k]?) → t.T i v bs w → t.T i v bs w')
    (hstep : ∀ i, i < lo.length → ∀ (vals : Nat → Value) (bs : Nat → List Nat) (w : World), t.H w → (∀ j, j < lo.length → (j = i ∨ ancB lo lo.length j i = true) → vals j = v0 j) → (∀ j, j < lo.length → ancB lo lo.length i j = true → ∀ u, t.rd j = some u → vals j = u) → (∀ j ∈ t.use i, t.T j (vals j) (bs j) w ∧ ∀ k ∈ bs j, t.n0 ≤ k ∧ k < w.heap.size) →
      (∀ j ∈ t.use i, ∀ j' ∈ t.use i, j ≠ j' → ∀ k ∈ bs j, k ∉ bs j') → ∀ R : Act → World → Prop, (∀ a' w', t.Step i vals bs w a' w' → R a' w') → walk P lo.toArray (fun _ => True) (Qn Q R) [(i, 2)] ⟨t.F vals, t.ds⟩ w)
    (i : Nat) (hi : i < lo.length) (ls : Nat → Bool) (a : Act) (w : World) (hl : ls i = false) (hp : predsB lo ls i = true) (hI : t.InvU v0 lo ls a w) : walk P lo.toArray (fun _ => True) (Qn Q (t.InvU v0 lo (upd ls i))) [(i, 2)] a w := by
  obtain ⟨vals, bs, rfl, hH, hcl, hrd, htok, hdis, hlk, hun⟩ := hI
  unfold Tk.chk at hc
  rw [Bool.and_eq_true] at hc
  obtain ⟨hc, hck⟩ := hc
  have hanc : ∀ k, k < lo.length → ∀ j, t.lk k = some j → j < lo.length ∧ ancB lo lo.length k j = true := fun k hk j e => by
    unfold Tk.lkok at hck
    have := List.all_eq_true.1 hck k (List.mem_range.2 hk)
    rw [e] at this
    simpa using this
  have hlive : ∀ j ∈ t.use i, t.live lo.length ls j := fun j hj => by
    unfold Tk.chk0 at hc
    have h1 := List.all_eq_true.1 (List.all_eq_true.1 hc i (List.mem_range.2 hi)) j hj
    simp only [Bool.and_eq_true, Bool.or_eq_true] at h1
    refine ⟨?_, fun c hcl2 hcj => ?_⟩
    · rcases h1.1 with h2 | h2
      · exact .inl (by simpa using h2)
      · exact .inr (closed_anc ht hcl _ _ _ hi hp h2)
    · have h2 := List.all_eq_true.1 h1.2 c (List.mem_range.2 hcl2)
      simp only [Bool.or_eq_true, Bool.not_eq_true', beq_iff_eq] at h2
      rcases h2 with h2 | h2 | h2
      · rw [List.contains_iff_mem.2 hcj] at h2; cases h2
      · rw [h2]; exact hl
      · cases hx : ls c with
        | false => rfl
        | true =>
          have := (closed_anc ht hcl _ _ _ hcl2 (hcl c hcl2 hx) h2).2
          rw [hl] at this; cases this
  refine hstep i hi vals bs w hH (fun j hj ha => hun j hj (by
    rcases ha with rfl | ha
    · exact hl
    · cases hx : ls j with
      | false => rfl
      | true =>
        have := (closed_anc ht hcl _ _ _ hj (hcl j hj hx) ha).2
        rw [hl] at this; cases this)) (fun j hj ha u hu => hrd j hj (closed_anc ht hcl _ _ _ hi hp ha).2 u hu) (fun j hj => htok j (hlive j hj)) (fun j hj j' hj' hne => hdis j j' (hlive j hj) (hlive j' hj') hne) _ ?_
  rintro a' w' ⟨v, bs', rfl, hH', hv, hTi, hbs, hsz, hoth, hvl⟩
  have htk : ∀ j ∈ t.take i, j ∈ t.use i := fun j hj => by
    have := List.all_eq_true.1 (List.all_eq_true.1 hsub i (List.mem_range.2 hi)) j hj
    simpa using this
  -- a token that is alive behind the operation, but not its own, was alive ahead of it, and is not taken
  have hold : ∀ j, j ≠ i → t.live lo.length (upd ls i) j → t.live lo.length ls j ∧ j ∉ t.take i := fun j hji h => by
    refine ⟨⟨h.1.imp id fun ⟨h1, h2⟩ => ⟨h1, by simpa [upd, hji] using h2⟩, fun c hc1 hc2 => ?_⟩, fun hj => ?_⟩
    · have := h.2 c hc1 hc2
      unfold upd at this
      simp only [Bool.or_eq_false_iff] at this
      exact this.2
    · have := h.2 i hi hj
      simp [upd] at this
  have hkeep : ∀ j, t.live lo.length ls j → j ∉ t.take i → ∀ k ∈ bs j, w'.heap[k]? = w.heap[k]? := fun j hj hjt k hk =>
    hoth k ((htok j hj).2 k hk).2 fun j' hj' hk' => hdis j j' hj (hlive j' (htk j' hj')) (fun e => hjt (e ▸ hj')) k hk hk'
  refine ⟨setV vals i v, fun j => if j = i then bs' else bs j, rfl, hH', fun k hk hks => ?_, fun k hk hks u hu => ?_, fun k hk => ?_, fun j k hj hk hne b hb hb2 => ?_, fun k hk hks j e => ?_, fun k hk hks => ?_⟩
  · by_cases hki : k = i
    · subst hki; exact predsB_upd hp
    · exact predsB_upd (hcl k hk (by simpa [upd, hki] using hks))
  · by_cases hki : k = i
    · subst hki; simp only [setV, if_true]; exact hv u hu
    · simp only [setV, hki, if_false]
      exact hrd k hk (by simpa [upd, hki] using hks) u hu
  · by_cases hki : k = i
    · subst hki
      simp only [setV, if_true]
      exact ⟨hTi, fun b hb => ⟨(hbs b hb).1, (hbs b hb).2.1⟩⟩
    · obtain ⟨h1, h2⟩ := hold k hki hk
      simp only [setV, hki, if_false]
      have h3 := htok k h1
      exact ⟨hT _ _ _ _ _ (hkeep k h1 h2) h3.1, fun b hb => ⟨(h3.2 b hb).1, Nat.lt_of_lt_of_le (h3.2 b hb).2 hsz⟩⟩
  · have hown : ∀ j, j ≠ i → t.live lo.length (upd ls i) j → ∀ b ∈ bs j, b ∉ bs' := fun j hji hj b hb hb' => by
      obtain ⟨h1, h2⟩ := hold j hji hj
      rcases (hbs b hb').2.2 with h3 | ⟨j', hj', h3⟩
      · have := ((htok j h1).2 b hb).2; omega
      · exact hdis j j' h1 (hlive j' (htk j' hj')) (fun e => h2 (e ▸ hj')) b hb h3
    by_cases hji : j = i
    · subst hji
      have hkj : k ≠ j := fun e => hne e.symm
      simp only [if_true] at hb
      simp only [hkj, if_false] at hb2
      exact hown k hkj hk b hb2 hb
    · simp only [hji, if_false] at hb
      by_cases hki : k = i
      · subst hki
        simp only [if_true] at hb2
        exact hown j hji hj b hb hb2
      · simp only [hki, if_false] at hb2
        exact hdis j k (hold j hji hj).1 (hold k hki hk).1 hne b hb hb2
  · obtain ⟨hj, ha⟩ := hanc k hk j e
    by_cases hki : k = i
    · subst hki
      have hjl := (closed_anc ht hcl _ _ _ hk hp ha).2
      have hji : j ≠ k := fun e2 => by rw [e2, hl] at hjl; cases hjl
      simp only [setV, if_true, hji, if_false]
      exact hvl j e
    · have hkl : ls k = true := by simpa [upd, hki] using hks
      have hjl := (closed_anc ht hcl _ _ _ hk (hcl k hk hkl) ha).2
      have hji : j ≠ i := fun e2 => by rw [e2, hl] at hjl; cases hjl
      simp only [setV, hki, if_false, hji]
      exact hlk k hk hkl j e
  · have hki : k ≠ i := fun e => by subst e; simp [upd] at hks
    have hkl : ls k = false := by simpa [upd, hki] using hks
    simp only [setV, hki, if_false]
    exact hun k hk hkl
theorem Tk.finU {t : Tk} {v0 : Nat → Value} {lo : List Oper} (hend : ∀ (vals : Nat → Value) (bs : Nat → List Nat) (w : World), t.H w → (∀ j, j < lo.length → ∀ u, t.rd j = some u → vals j = u) → (∀ j, (j ∈ t.init ∨ j < lo.length) → (∀ c, c < lo.length → j ∉ t.take c) → t.T j (vals j) (bs j) w ∧ ∀ k ∈ bs j, t.n0 ≤ k ∧ k < w.heap.size) →
      (∀ i j, (i ∈ t.init ∨ i < lo.length) → (∀ c, c < lo.length → i ∉ t.take c) → (j ∈ t.init ∨ j < lo.length) → (∀ c, c < lo.length → j ∉ t.take c) → i ≠ j → ∀ k ∈ bs i, k ∉ bs j) → (∀ j, j < lo.length → ∀ k, t.lk j = some k → vals j = vals k) → Q .normal ⟨t.F vals, t.ds⟩ w)
    (ls : Nat → Bool) (a : Act) (w : World) (h : ∀ i, i < lo.length → ls i = true) (hI : t.InvU v0 lo ls a w) : Q .normal a w := by
  obtain ⟨vals, bs, rfl, hH, hcl, hrd, htok, hdis, hlk, _⟩ := hI
  have hl : ∀ j, (j ∈ t.init ∨ j < lo.length) → (∀ c, c < lo.length → j ∉ t.take c) → t.live lo.length ls j := fun j h1 h2 => ⟨h1.imp id fun h3 => ⟨h3, h j h3⟩, fun c hc hj => absurd hj (h2 c hc)⟩
  exact hend vals bs w hH (fun j hj u hu => hrd j hj (h j hj) u hu) (fun j h1 h2 => htok j (hl j h1 h2)) (fun i j h1 h2 h3 h4 hne => hdis i j (hl i h1 h2) (hl j h3 h4) hne) (fun j hj k e => hlk j hj (h j hj) k e)
theorem Tk.startU {t : Tk} {lo : List Oper} (hini : ∀ j ∈ t.init, lo.length ≤ j) {a : Act} {w : World} (vals : Nat → Value) (bs : Nat → List Nat) (ha : a = ⟨t.F vals, t.ds⟩) (hH : t.H w) (h0 : ∀ j ∈ t.init, t.T j (vals j) (bs j) w ∧ ∀ k ∈ bs j, t.n0 ≤ k ∧ k < w.heap.size)
    (hd : ∀ i ∈ t.init, ∀ j ∈ t.init, i ≠ j → ∀ k ∈ bs i, k ∉ bs j) : t.InvU vals lo (fun _ => false) a w := by
  have hl : ∀ i, t.live lo.length (fun _ => false) i → i ∈ t.init := fun i h => by
    rcases h.1 with h1 | h1
    · exact h1
    · cases h1.2
  exact ⟨vals, bs, ha, hH, fun _ _ h => (by cases h), fun _ _ h => (by cases h), fun i h => h0 i (hl i h), fun i j hi hj => hd i (hl i hi) j (hl j hj), fun _ _ h => (by cases h), fun _ _ _ => rfl⟩
theorem wp_regionU {id : Nat} {a : Act} {w : World} {lo : List Oper} (t : Tk) (hm : P.follows .mixedOrders = true) (ht : topoW lo = true) (hc : t.chk lo = true) (hsub : t.sub lo = true) (hini : ∀ j ∈ t.init, lo.length ≤ j) (hT : ∀ i v bs w w', (∀ k ∈ bs, w'.heap[k]? = w.heap[k]?) → t.T i v bs w → t.T i v bs w')
    (v0 : Nat → Value) (bs : Nat → List Nat) (ha : a = ⟨t.F v0, t.ds⟩) (hH : t.H w.drew) (h0 : ∀ j ∈ t.init, t.T j (v0 j) (bs j) w.drew ∧ ∀ k ∈ bs j, t.n0 ≤ k ∧ k < w.drew.heap.size) (hd : ∀ i ∈ t.init, ∀ j ∈ t.init, i ≠ j → ∀ k ∈ bs i, k ∉ bs j)
    (hstep : ∀ i, i < lo.length → ∀ (vals : Nat → Value) (bs : Nat → List Nat) (w : World), t.H w → (∀ j, j < lo.length → (j = i ∨ ancB lo lo.length j i = true) → vals j = v0 j) → (∀ j, j < lo.length → ancB lo lo.length i j = true → ∀ u, t.rd j = some u → vals j = u) → (∀ j ∈ t.use i, t.T j (vals j) (bs j) w ∧ ∀ k ∈ bs j, t.n0 ≤ k ∧ k < w.heap.size) →
      (∀ j ∈ t.use i, ∀ j' ∈ t.use i, j ≠ j' → ∀ k ∈ bs j, k ∉ bs j') → ∀ R : Act → World → Prop, (∀ a' w', t.Step i vals bs w a' w' → R a' w') → walk P lo.toArray (fun _ => True) (Qn Q R) [(i, 2)] ⟨t.F vals, t.ds⟩ w)
    (hend : ∀ (vals : Nat → Value) (bs : Nat → List Nat) (w : World), t.H w → (∀ j, j < lo.length → ∀ u, t.rd j = some u → vals j = u) → (∀ j, (j ∈ t.init ∨ j < lo.length) → (∀ c, c < lo.length → j ∉ t.take c) → t.T j (vals j) (bs j) w ∧ ∀ k ∈ bs j, t.n0 ≤ k ∧ k < w.heap.size) →
      (∀ i j, (i ∈ t.init ∨ i < lo.length) → (∀ c, c < lo.length → i ∉ t.take c) → (j ∈ t.init ∨ j < lo.length) → (∀ c, c < lo.length → j ∉ t.take c) → i ≠ j → ∀ k ∈ bs i, k ∉ bs j) → (∀ j, j < lo.length → ∀ k, t.lk j = some k → vals j = vals k) → Q .normal ⟨t.F vals, t.ds⟩ w) : (Code.region id lo.toArray true).wp P Q a w :=
  wp_regionJ (t.InvU v0 lo) hm ht (Tk.startU hini v0 bs ha hH h0 hd) (Tk.stepU ht hc hsub hini hT hstep) (Tk.finU hend)
end
end Go.Ord
set_option linter.unusedVariables false
set_option linter.unusedSimpArgs false
namespace Go.Proofs.Ytjbjmoghloabpaa
open Go.RowKit Go.Proofs
attribute [local irreducible] Ord.walk
noncomputable def m18 : List Oper := regOf 18 moreCode
theorem ok18 : Ord.okD m18 = true := by kernel_rfl
noncomputable def t18 (z zr n p13 p17 : Nat) (c0 c1 c2 c3 c5 v13 : Value) (l : List (Int × Int × Int)) (g : Int × Int × Int) (ot : Bool) (B : List Nat) (K : World → Prop) (tm : Array Value) (w0 : World) : Ord.Tk where
  n0 := z
  F vals := Ord.Fr m18 tm vals
  ds := []
  H W := Below z w0 W
  rd i := match i with
    | 0 => some (.pointer (some ⟨p13, 4, none⟩))
    | 1 => some v13
    | 2 => some (.agg #[.int .i64 g.1, .int .i64 g.2.1, .int .i64 g.2.2])
    | 5 => some (.bool ot)
    | 6 => some (.bool ot)
    | 7 => if ot then some (.pointer (some ⟨p17, 1, none⟩)) else none
    | 8 => if ot then some (.pointer (some ⟨p17, 2, none⟩)) else none
    | 9 => if ot then some (.int .i64 g.2.2) else none
    | 10 => if ot then some (.bool (decide (0 ≤ g.2.2))) else none
    | 11 => some (.bool (ot && decide (0 ≤ g.2.2)))
    | 12 => some (.pointer (some ⟨p13, 4, none⟩))
    | 14 => some (.bool (ot && decide (0 ≤ g.2.2)))
    | _ => none
  use i := match i with
    | 1 => [18]
    | 2 => [16]
    | 4 => [15, 3]
    | 9 => [16]
    | 13 => [18, 4]
    | _ => []
  take i := match i with
    | 4 => [15]
    | 13 => [18, 4]
    | _ => []
  T i v bs w := match i with
    | 3 => OneT w n 49 #[.int .i64 g.1, .int .i64 g.2.1, .int .i64 g.2.2] v bs
    | 4 => OwnT w zr 49 3 gcell (l ++ [g]) v bs
    | 13 => ∃ u bu, bs = p13 :: bu ∧ Blk w p13 #[c0, c1, c2, c3, u, c5] 27 ∧ OwnT w zr 49 3 gcell (l ++ [g]) u bu
    | 15 => OwnT w zr 49 3 gcell l v13 bs
    | 16 => bs = [p17] ∧ Blk w p17 #[.int .i64 g.1, .int .i64 g.2.1, .int .i64 g.2.2] 49
    | 17 => bs = B ∧ K w
    | 18 => bs = [p13] ∧ Blk w p13 #[c0, c1, c2, c3, v13, c5] 27
    | _ => bs = []
  init := [15, 16, 17, 18]
theorem t18_stay {z zr n p13 p17 : Nat} {c0 c1 c2 c3 c5 v13 : Value} {l : List (Int × Int × Int)} {g : Int × Int × Int} {ot : Bool} {B : List Nat} {K : World → Prop} {tm : Array Value} {w0 : World} (hK : ∀ w w', (∀ k ∈ B, w'.heap[k]? = w.heap[k]?) → K w → K w') (i : Nat) (v : Value) (bs : List Nat) (w w' : World) (h : ∀ k ∈ bs, w'.heap[k]? = w.heap[k]?) (hT : (t18 z zr n p13 p17 c0 c1 c2 c3 c5 v13 l g ot B K tm w0).T i v bs w) : (t18 z zr n p13 p17 c0 c1 c2 c3 c5 v13 l g ot B K tm w0).T i v bs w' := by
  match i, hT with
  | 0, hT => exact hT
  | 1, hT => exact hT
  | 2, hT => exact hT
  | 3, hT => exact OneT.stay hT h
  | 4, hT => exact OwnT.stay hT h
  | 5, hT => exact hT
  | 6, hT => exact hT
  | 7, hT => exact hT
  | 8, hT => exact hT
  | 9, hT => exact hT
  | 10, hT => exact hT
  | 11, hT => exact hT
  | 12, hT => exact hT
  | 13, ⟨u, bu, e, h1, h2⟩ => exact ⟨u, bu, e, (h p13 (by simp [e])).trans h1, h2.stay fun k hk => h k (by simp [e, hk])⟩
  | 14, hT => exact hT
  | 15, hT => exact OwnT.stay hT h
  | 16, ⟨e, h1⟩ => exact ⟨e, (h p17 (by simp [e])).trans h1⟩
  | 17, ⟨e, h1⟩ => exact ⟨e, hK w w' (fun k hk => h k (by rw [e]; exact hk)) h1⟩
  | 18, ⟨e, h1⟩ => exact ⟨e, (h p13 (by simp [e])).trans h1⟩
  | n + 19, hT => exact hT
set_option maxHeartbeats 4000000 in
set_option maxRecDepth 100000 in
theorem more_r18 {l : List (Int × Int × Int)} {g : Int × Int × Int} {ot : Bool} {w : World} {tm : Array Value} (hsz : tm.size = 495) {z zr p13 p17 : Nat} {c0 c1 c2 c3 c5 v13 : Value} {B : List Nat} {K : World → Prop} (h13 : tm[13]? = some (.pointer (some ⟨p13, 0, none⟩))) (h15 : tm[15]? = some (.bool ot)) (h17 : tm[17]? = some (.pointer (some ⟨p17, 0, none⟩)))
    (b13 : Blk w p13 #[c0, c1, c2, c3, v13, c5] 27) (b17 : Blk w p17 #[.int .i64 g.1, .int .i64 g.2.1, .int .i64 g.2.2] 49) (own : OwnG w zr v13 l) (hl : l.length ≤ 40) (hz13 : z ≤ p13) (hz17 : z ≤ p17) (hzr : z ≤ zr) (hzw : zr ≤ w.heap.size) (hov : ∀ k, v13.ownBlock = some k → k ≠ p17 ∧ k ∉ B)
    (hK : ∀ w w', (∀ k ∈ B, w'.heap[k]? = w.heap[k]?) → K w → K w') (hKw : K w) (hdw : ∀ w, K w → K w.drew) (hB : ∀ k ∈ B, z ≤ k ∧ k < w.heap.size) (hB13 : p13 ∉ B) (hB17 : p17 ∉ B) {Q : Exit → Act → World → Prop}
    (hexit : ∀ (vals : Nat → Value) W u, Below z w W → vals 14 = .bool (ot && decide (0 ≤ g.2.2)) → Blk W p13 #[c0, c1, c2, c3, u, c5] 27 → OwnG W zr u (l ++ [g]) → K W → (∀ k, u.ownBlock = some k → k ∉ B) → Q .normal ⟨Ord.Fr m18 tm vals, []⟩ W) : (Code.region 18 m18.toArray true).wp Try.prog Q ⟨tm, []⟩ w := by
  obtain ⟨i0, hi0, hz0, hs0, hy0⟩ := info_of Try.info49
  obtain ⟨n, hn⟩ : ∃ n, w.heap.size = n := ⟨_, rfl⟩
  have hl13 : p13 < n := by rw [← hn]; exact b13.lt
  have hl17 : p17 < n := by rw [← hn]; exact b17.lt
  rw [hn] at hB hzw
  have hne : p13 ≠ p17 := by
    rintro rfl
    have h2 : w.heap[p13]? = _ := b13
    have h3 : w.heap[p13]? = _ := b17
    rw [h2] at h3
    simp at h3
  have hov13 : ∀ k, v13.ownBlock = some k → k ≠ p13 := fun k e e2 => own_ne_blk own b13 (by decide) (by rw [e, e2])
  have hvl : ∀ k, v13.ownBlock = some k → zr ≤ k ∧ k < n := fun k e => by have := own.lt k e; rw [hn] at this; exact this
  refine Ord.wp_regionU (t18 z zr n p13 p17 c0 c1 c2 c3 c5 v13 l g ot B K tm w) (by kernel_rfl) (by kernel_rfl) (by kernel_rfl) (by kernel_rfl) (by intro j hj; simp [t18] at hj; rcases hj with rfl | rfl | rfl | rfl <;> decide) (t18_stay hK) (Ord.valsO m18 tm) (fun i => if i = 15 then v13.ownBlock.toList else if i = 16 then [p17] else if i = 17 then B else [p13]) (Ord.Fr_start m18 tm []) (Below.refl _ _).drew ?_ ?_ ?_ ?_
  · intro j hj
    simp [t18] at hj
    rcases hj with rfl | rfl | rfl | rfl
    · exact ⟨⟨rfl, ownsRow_drew own⟩, fun k hk => by simp at hk; have := hvl k hk; exact ⟨by show z ≤ k; omega, by show k < w.heap.size; omega⟩⟩
    · exact ⟨⟨rfl, b17.drew⟩, fun k hk => by simp at hk; subst hk; exact ⟨hz17, b17.lt⟩⟩
    · exact ⟨⟨rfl, hdw _ hKw⟩, fun k hk => by have := hB k (by simpa using hk); exact ⟨this.1, by show k < w.heap.size; omega⟩⟩
    · exact ⟨⟨rfl, b13.drew⟩, fun k hk => by simp at hk; subst hk; exact ⟨hz13, b13.lt⟩⟩
  · intro i hi j hj hij k hk
    simp [t18] at hi hj
    have hkB : ∀ k, k ∈ B → k ≠ p13 ∧ k ≠ p17 := fun k h => ⟨fun e => hB13 (e ▸ h), fun e => hB17 (e ▸ h)⟩
    rcases hi with rfl | rfl | rfl | rfl <;> rcases hj with rfl | rfl | rfl | rfl <;> simp at hk ⊢ <;> first | exact absurd rfl hij | exact (hov k hk).1 | exact (hov k hk).2 | exact hov13 k hk | (subst hk; first | exact hne | exact hne.symm | exact hB13 | exact hB17 | exact fun e => (hov _ e).1 rfl | exact fun e => hov13 _ e rfl) | exact (hkB k hk).1 | exact (hkB k hk).2 | exact fun e => (hov k e).2 hk
  · intro j hj vals bs W hH hun hrd htok hdis R hRR
    have hF : ∀ vals, (t18 z zr n p13 p17 c0 c1 c2 c3 c5 v13 l g ot B K tm w).F vals = Ord.Fr m18 tm vals := fun _ => rfl
    have hBw : Below z w W := hH
    have hnW : n ≤ W.heap.size := by have := hBw.size; omega
    have e13 : (Act.mk ((t18 z zr n p13 p17 c0 c1 c2 c3 c5 v13 l g ot B K tm w).F vals) (t18 z zr n p13 p17 c0 c1 c2 c3 c5 v13 l g ot B K tm w).ds).eval (.tmp 13) = .pointer (some ⟨p13, 0, none⟩) := Ord.Fr_old (by kernel_rfl) h13
    have e17 : (Act.mk ((t18 z zr n p13 p17 c0 c1 c2 c3 c5 v13 l g ot B K tm w).F vals) (t18 z zr n p13 p17 c0 c1 c2 c3 c5 v13 l g ot B K tm w).ds).eval (.tmp 17) = .pointer (some ⟨p17, 0, none⟩) := Ord.Fr_old (by kernel_rfl) h17
    have hj15 : j < 15 := hj
    rcases (show j = 0 ∨ j = 1 ∨ j = 2 ∨ j = 3 ∨ j = 4 ∨ j = 5 ∨ j = 6 ∨ j = 7 ∨ j = 8 ∨ j = 9 ∨ j = 10 ∨ j = 11 ∨ j = 12 ∨ j = 13 ∨ j = 14 by omega) with rfl | rfl | rfl | rfl | rfl | rfl | rfl | rfl | rfl | rfl | rfl | rfl | rfl | rfl | rfl
    · refine st_sem ok18 hF rfl rfl (s := Instr.fieldAt 27 (.pointer (some ⟨p13, 0, none⟩)) 3) (v := .pointer (some ⟨p13, 4, none⟩)) (w' := W) (by rw [← e13]; rfl) (by first | (simp [go_sem]; done) | (simp [go_sem]; rfl)) ?_
      exact hR_read hRR rfl hH (by simp [t18]) rfl
    · have e200 := hrd 0 (by decide) (by kernel_rfl) _ rfl
      have x0 : (Act.mk ((t18 z zr n p13 p17 c0 c1 c2 c3 c5 v13 l g ot B K tm w).F vals) (t18 z zr n p13 p17 c0 c1 c2 c3 c5 v13 l g ot B K tm w).ds).eval (.tmp 168) = .pointer (some ⟨p13, 4, none⟩) := (Ord.Fr_new (i := 0) (by kernel_rfl) (by omega)).trans e200
      obtain ⟨⟨_, bW⟩, _⟩ := htok 18 (by simp [t18])
      have rW := bW.cell
      refine st_sem ok18 hF rfl rfl (s := Instr.loadAt 24 (.pointer (some ⟨p13, 4, none⟩))) (v := v13) (w' := W) (by rw [← x0]; rfl) (by simp [go_sem, rW]) ?_
      exact hR_read hRR rfl hH (by simp [t18]) rfl
    · obtain ⟨⟨_, bW⟩, _⟩ := htok 16 (by simp [t18])
      refine st_sem ok18 hF rfl rfl (s := Instr.loadAt 49 (.pointer (some ⟨p17, 0, none⟩))) (v := .agg #[.int .i64 g.1, .int .i64 g.2.1, .int .i64 g.2.2]) (w' := W) (by rw [← e17]; rfl) (loadVar_blk agg_group bW rfl) ?_
      exact hR_read hRR rfl hH (by simp [t18]) rfl
    · have e202 := hrd 2 (by decide) (by kernel_rfl) _ rfl
      have x2 : (Act.mk ((t18 z zr n p13 p17 c0 c1 c2 c3 c5 v13 l g ot B K tm w).F vals) (t18 z zr n p13 p17 c0 c1 c2 c3 c5 v13 l g ot B K tm w).ds).eval (.tmp 170) = .agg #[.int .i64 g.1, .int .i64 g.2.1, .int .i64 g.2.2] := (Ord.Fr_new (i := 2) (by kernel_rfl) (by omega)).trans e202
      refine st_sem ok18 hF rfl rfl (s := Instr.buildSlice 24 1 #[(0, .agg #[.int .i64 g.1, .int .i64 g.2.1, .int .i64 g.2.2])]) (v := .slice (some ⟨W.heap.size, 0, none⟩) 1 1) (w' := W.alloc (.cells #[.int .i64 g.1, .int .i64 g.2.1, .int .i64 g.2.2] 49)) (by simp [execOp, x2]) (by simp [Instr.buildSlice, run_underlying Try.underlying24, go_sem]) ?_
      exact hR_alloc hRR rfl (hBw.alloc (by omega) _) (by simp [t18]) ⟨_, rfl, by omega, rfl, Blk.new _ _ _⟩ (by show z ≤ _; omega)
    · obtain ⟨hown, hlb⟩ := htok 15 (by simp [t18])
      obtain ⟨⟨b1, eb, hb3, ev, bb⟩, _⟩ := htok 3 (by simp [t18])
      replace hown : OwnT W zr 49 3 gcell l v13 (bs 15) := hown
      have e201 := hrd 1 (by decide) (by kernel_rfl) _ rfl
      have x1 : (Act.mk ((t18 z zr n p13 p17 c0 c1 c2 c3 c5 v13 l g ot B K tm w).F vals) (t18 z zr n p13 p17 c0 c1 c2 c3 c5 v13 l g ot B K tm w).ds).eval (.tmp 169) = v13 := (Ord.Fr_new (i := 1) (by kernel_rfl) (by omega)).trans e201
      have ex : (Act.mk ((t18 z zr n p13 p17 c0 c1 c2 c3 c5 v13 l g ot B K tm w).F vals) (t18 z zr n p13 p17 c0 c1 c2 c3 c5 v13 l g ot B K tm w).ds).eval (.tmp 171) = .slice (some ⟨b1, 0, none⟩) 1 1 := (Ord.Fr_new (i := 3) (by kernel_rfl) (by omega)).trans ev
      refine st_append ok18 hF rfl rfl (ty := 24) rfl (n1 := zr) (e := 49) Try.underlying24 hi0 hz0 hs0 hy0 rfl (by decide) x1 hown.2 ex (m := 1) (news := gcell g) ⟨rfl, .inr ⟨_, _, rfl, news_blk (A := #[.int .i64 g.1, .int .i64 g.2.1, .int .i64 g.2.2]) bb⟩⟩ (fun u hu => by simp [gcell] at hu; rcases hu with rfl | rfl | rfl <;> rfl) (by unfold maxLen; omega) (by omega) (by omega) hRR ?_ rfl ?_ ?_ (by show z ≤ zr; omega)
      · intro w' hg; exact hBw.grown hg (by omega) (fun g' e => by have := hvl g' e; omega)
      · intro v' w' ho
        exact ⟨rfl, by simpa [List.flatMap_append] using ho⟩
      · intro k hk
        exact ⟨15, by simp [t18], by rw [hown.1, hk]; simp⟩
    · have h14 := hun 14 (by decide) (.inr (by kernel_rfl))
      have hv0 : Ord.valsO m18 tm 14 = .bool ot := by
        unfold Ord.valsO
        rw [show Ord.dstO m18 14 = some 15 from by kernel_rfl]
        simp [h15]
      have e15 : (Act.mk ((t18 z zr n p13 p17 c0 c1 c2 c3 c5 v13 l g ot B K tm w).F vals) (t18 z zr n p13 p17 c0 c1 c2 c3 c5 v13 l g ot B K tm w).ds).eval (.tmp 15) = .bool ot := (Ord.Fr_new (i := 14) (by kernel_rfl) (by omega)).trans (h14.trans hv0)
      refine st_val ok18 hF rfl rfl (v := .bool ot) (by rw [← e15]; rfl) ?_
      exact hR_read hRR rfl hH (by simp [t18]) rfl
    · have e205 := hrd 5 (by decide) (by kernel_rfl) _ rfl
      have x5 : (Act.mk ((t18 z zr n p13 p17 c0 c1 c2 c3 c5 v13 l g ot B K tm w).F vals) (t18 z zr n p13 p17 c0 c1 c2 c3 c5 v13 l g ot B K tm w).ds).eval (.tmp 173) = .bool ot := (Ord.Fr_new (i := 5) (by kernel_rfl) (by omega)).trans e205
      refine st_val ok18 hF rfl rfl (v := .bool ot) (by rw [← x5]; rfl) ?_
      exact hR_read hRR rfl hH (by simp [t18]) rfl
    · have e206 := hrd 6 (by decide) (by kernel_rfl) _ rfl
      cases ot
      · refine st_skip ok18 hF rfl (j := 6) (c := true) rfl rfl rfl (by omega) e206 (by decide) ?_
        exact hR_read hRR rfl hH (by simp [t18]) rfl
      · refine st_semG ok18 hF rfl (j := 6) (b := true) rfl rfl rfl (by omega) e206 (s := Instr.fieldAt 49 (.pointer (some ⟨p17, 0, none⟩)) 1) (v := .pointer (some ⟨p17, 1, none⟩)) (w' := W) (by rw [← e17]; rfl) (by first | (simp [go_sem]; done) | (simp [go_sem]; rfl)) ?_
        exact hR_read hRR rfl hH (by simp [t18]) rfl
    · have e206 := hrd 6 (by decide) (by kernel_rfl) _ rfl
      cases ot
      · refine st_skip ok18 hF rfl (j := 6) (c := true) rfl rfl rfl (by omega) e206 (by decide) ?_
        exact hR_read hRR rfl hH (by simp [t18]) rfl
      · have e207 := hrd 7 (by decide) (by kernel_rfl) _ rfl
        have x7 : (Act.mk ((t18 z zr n p13 p17 c0 c1 c2 c3 c5 v13 l g true B K tm w).F vals) (t18 z zr n p13 p17 c0 c1 c2 c3 c5 v13 l g true B K tm w).ds).eval (.tmp 175) = .pointer (some ⟨p17, 1, none⟩) := (Ord.Fr_new (i := 7) (by kernel_rfl) (by omega)).trans e207
        refine st_semG ok18 hF rfl (j := 6) (b := true) rfl rfl rfl (by omega) e206 (s := Instr.fieldAt 23 (.pointer (some ⟨p17, 1, none⟩)) 1) (v := .pointer (some ⟨p17, 2, none⟩)) (w' := W) (by rw [← x7]; rfl) (by first | (simp [go_sem]; done) | (simp [go_sem]; rfl)) ?_
        exact hR_read hRR rfl hH (by simp [t18]) rfl
    · have e206 := hrd 6 (by decide) (by kernel_rfl) _ rfl
      cases ot
      · refine st_skip ok18 hF rfl (j := 6) (c := true) rfl rfl rfl (by omega) e206 (by decide) ?_
        exact hR_read hRR rfl hH (by simp [t18]) rfl
      · have e208 := hrd 8 (by decide) (by kernel_rfl) _ rfl
        have x8 : (Act.mk ((t18 z zr n p13 p17 c0 c1 c2 c3 c5 v13 l g true B K tm w).F vals) (t18 z zr n p13 p17 c0 c1 c2 c3 c5 v13 l g true B K tm w).ds).eval (.tmp 176) = .pointer (some ⟨p17, 2, none⟩) := (Ord.Fr_new (i := 8) (by kernel_rfl) (by omega)).trans e208
        obtain ⟨⟨_, bW⟩, _⟩ := htok 16 (by simp [t18])
        have rW := bW.cell
        refine st_semG ok18 hF rfl (j := 6) (b := true) rfl rfl rfl (by omega) e206 (s := Instr.loadAt 3 (.pointer (some ⟨p17, 2, none⟩))) (v := .int .i64 g.2.2) (w' := W) (by rw [← x8]; rfl) (by simp [go_sem, rW]) ?_
        exact hR_read hRR rfl hH (by simp [t18]) rfl
    · have e206 := hrd 6 (by decide) (by kernel_rfl) _ rfl
      cases ot
      · refine st_skip ok18 hF rfl (j := 6) (c := true) rfl rfl rfl (by omega) e206 (by decide) ?_
        exact hR_read hRR rfl hH (by simp [t18]) rfl
      · have e209 := hrd 9 (by decide) (by kernel_rfl) _ rfl
        have x9 : (Act.mk ((t18 z zr n p13 p17 c0 c1 c2 c3 c5 v13 l g true B K tm w).F vals) (t18 z zr n p13 p17 c0 c1 c2 c3 c5 v13 l g true B K tm w).ds).eval (.tmp 177) = .int .i64 g.2.2 := (Ord.Fr_new (i := 9) (by kernel_rfl) (by omega)).trans e209
        refine st_semG ok18 hF rfl (j := 6) (b := true) rfl rfl rfl (by omega) e206 (s := (do eqGuard .geq 3 (.tmp 177) (.const (.int .i64 0)) (.int .i64 g.2.2) (.int .i64 0); binOp .geq 3 (.int .i64 g.2.2) (.int .i64 0))) (v := .bool (decide (0 ≤ g.2.2))) (w' := W) (by rw [← x9]; rfl) (by simp [go_sem]) ?_
        exact hR_read hRR rfl hH (by simp [t18]) rfl
    · have e206 := hrd 6 (by decide) (by kernel_rfl) _ rfl
      have x6 : (Act.mk ((t18 z zr n p13 p17 c0 c1 c2 c3 c5 v13 l g ot B K tm w).F vals) (t18 z zr n p13 p17 c0 c1 c2 c3 c5 v13 l g ot B K tm w).ds).eval (.tmp 174) = .bool ot := (Ord.Fr_new (i := 6) (by kernel_rfl) (by omega)).trans e206
      cases ot
      · refine st_val ok18 hF rfl rfl (v := .bool false) (by simp [execOp, x6, asBool]; rfl) ?_
        exact hR_read hRR rfl hH (by simp [t18]) rfl
      · have e210 := hrd 10 (by decide) (by kernel_rfl) _ rfl
        have x10 : (Act.mk ((t18 z zr n p13 p17 c0 c1 c2 c3 c5 v13 l g true B K tm w).F vals) (t18 z zr n p13 p17 c0 c1 c2 c3 c5 v13 l g true B K tm w).ds).eval (.tmp 178) = .bool (decide (0 ≤ g.2.2)) := (Ord.Fr_new (i := 10) (by kernel_rfl) (by omega)).trans e210
        refine st_val ok18 hF rfl rfl (v := .bool (decide (0 ≤ g.2.2))) (by simp [execOp, x6, x10, asBool]) ?_
        exact hR_read hRR rfl hH (by simp [t18]) rfl
    · refine st_sem ok18 hF rfl rfl (s := Instr.fieldAt 27 (.pointer (some ⟨p13, 0, none⟩)) 3) (v := .pointer (some ⟨p13, 4, none⟩)) (w' := W) (by rw [← e13]; rfl) (by first | (simp [go_sem]; done) | (simp [go_sem]; rfl)) ?_
      exact hR_read hRR rfl hH (by simp [t18]) rfl
    · obtain ⟨⟨ea, ba⟩, hla⟩ := htok 18 (by simp [t18])
      obtain ⟨hown, hlb⟩ := htok 4 (by simp [t18])
      replace hown : OwnT W zr 49 3 gcell (l ++ [g]) (vals 4) (bs 4) := hown
      have e212 := hrd 12 (by decide) (by kernel_rfl) _ rfl
      obtain ⟨a', c', ev⟩ := own_nil3 hown.2
      have x12 : (Act.mk ((t18 z zr n p13 p17 c0 c1 c2 c3 c5 v13 l g ot B K tm w).F vals) (t18 z zr n p13 p17 c0 c1 c2 c3 c5 v13 l g ot B K tm w).ds).eval (.tmp 180) = .pointer (some ⟨p13, 4, none⟩) := (Ord.Fr_new (i := 12) (by kernel_rfl) (by omega)).trans e212
      have ey : (Act.mk ((t18 z zr n p13 p17 c0 c1 c2 c3 c5 v13 l g ot B K tm w).F vals) (t18 z zr n p13 p17 c0 c1 c2 c3 c5 v13 l g ot B K tm w).ds).eval (.tmp 172) = vals 4 := Ord.Fr_new (i := 4) (by kernel_rfl) (by omega)
      have ra := ba.cell
      have fa := ba.free
      have hd := hdis 18 (by simp [t18]) 4 (by simp [t18]) (by decide)
      have hla' := hla p13 (by rw [ea]; simp)
      have hsc' : ∀ k, k ≠ p13 → (W.setCell ⟨p13, 4, none⟩ (vals 4)).heap[k]? = W.heap[k]? := fun k hk => Below.heap_setCell W _ _ k hk
      have hsc : ∀ k ∈ bs 4, (W.setCell ⟨p13, 4, none⟩ (vals 4)).heap[k]? = W.heap[k]? := fun k hk => hsc' k (fun e => hd p13 (by rw [ea]; simp) (e ▸ hk))
      have hblk := ba.set 4 (vals 4)
      refine st_cell ok18 hF rfl rfl (ty := 24) rfl rfl x12 ey (w' := W.setCell ⟨p13, 4, none⟩ (vals 4)) (by rw [ev]; simp [go_sem, ra, fa]) undef ?_
      refine hRR _ _ ⟨undef, p13 :: bs 4, rfl, hBw.setCell (by show z ≤ p13; omega) _, by simp [t18], ⟨vals 4, bs 4, rfl, hblk, hown.stay hsc⟩, fun k hk => ?_, by simp, fun k hk hkT => hsc' k (fun e => hkT 18 (by simp [t18]) (by rw [ea, e]; simp)), fun _ h => by simp [t18] at h⟩
      simp only [List.mem_cons] at hk
      rcases hk with rfl | hk
      · exact ⟨hla'.1, by simpa using hla'.2, .inr ⟨18, by simp [t18], by rw [ea]; simp⟩⟩
      · have := hlb k hk
        exact ⟨this.1, by simpa using this.2, .inr ⟨4, by simp [t18], hk⟩⟩
    · have e211 := hrd 11 (by decide) (by kernel_rfl) _ rfl
      have x11 : (Act.mk ((t18 z zr n p13 p17 c0 c1 c2 c3 c5 v13 l g ot B K tm w).F vals) (t18 z zr n p13 p17 c0 c1 c2 c3 c5 v13 l g ot B K tm w).ds).eval (.tmp 179) = .bool (ot && decide (0 ≤ g.2.2)) := (Ord.Fr_new (i := 11) (by kernel_rfl) (by omega)).trans e211
      refine st_val ok18 hF rfl rfl (v := .bool (ot && decide (0 ≤ g.2.2))) (by rw [← x11]; rfl) ?_
      exact hR_read hRR rfl hH (by simp [t18]) rfl
  · intro vals bs W hH hrd htok hdis _
    have hsurv : ∀ j, j = 13 ∨ j = 17 → ∀ c, c < m18.length → j ∉ (t18 z zr n p13 p17 c0 c1 c2 c3 c5 v13 l g ot B K tm w).take c := fun j h1 c hc => by
      have hc' : c < 15 := hc
      rcases (show c = 0 ∨ c = 1 ∨ c = 2 ∨ c = 3 ∨ c = 4 ∨ c = 5 ∨ c = 6 ∨ c = 7 ∨ c = 8 ∨ c = 9 ∨ c = 10 ∨ c = 11 ∨ c = 12 ∨ c = 13 ∨ c = 14 by omega) with rfl | rfl | rfl | rfl | rfl | rfl | rfl | rfl | rfl | rfl | rfl | rfl | rfl | rfl | rfl <;> simp [t18] <;> omega
    obtain ⟨u, bu, ea, h1, h2⟩ := (htok 13 (.inr (by decide)) (hsurv 13 (by omega))).1
    obtain ⟨ed, h3⟩ := (htok 17 (.inl (by simp [t18])) (hsurv 17 (by omega))).1
    have d1 := hdis 17 13 (.inl (by simp [t18])) (hsurv 17 (by omega)) (.inr (by decide)) (hsurv 13 (by omega)) (by omega)
    rw [ed, ea] at d1
    have e14 := hrd 14 (by decide) _ rfl
    refine hexit vals W u hH e14 h1 h2.2 h3 fun k hk hkB => ?_
    have := d1 k hkB
    rw [h2.1, hk] at this
    simp at this
/-- The same: all other blocks are as they were. -/
theorem more_r18b {l : List (Int × Int × Int)} {g : Int × Int × Int} {ot : Bool} {w : World} {tm : Array Value} (hsz : tm.size = 495) {z zr p13 p17 : Nat} {c0 c1 c2 c3 c5 v13 : Value} (h13 : tm[13]? = some (.pointer (some ⟨p13, 0, none⟩))) (h15 : tm[15]? = some (.bool ot)) (h17 : tm[17]? = some (.pointer (some ⟨p17, 0, none⟩)))
    (b13 : Blk w p13 #[c0, c1, c2, c3, v13, c5] 27) (b17 : Blk w p17 #[.int .i64 g.1, .int .i64 g.2.1, .int .i64 g.2.2] 49) (own : OwnG w zr v13 l) (hl : l.length ≤ 40) (hz13 : z ≤ p13) (hz17 : z ≤ p17) (hzr : z ≤ zr) (hzw : zr ≤ w.heap.size) (hov : ∀ k, v13.ownBlock = some k → k ≠ p17) {Q : Exit → Act → World → Prop}
    (hexit : ∀ (vals : Nat → Value) W u, Below z w W → vals 14 = .bool (ot && decide (0 ≤ g.2.2)) → Blk W p13 #[c0, c1, c2, c3, u, c5] 27 → OwnG W zr u (l ++ [g]) → (∀ k, k < w.heap.size → k ≠ p13 → k ≠ p17 → v13.ownBlock ≠ some k → W.heap[k]? = w.heap[k]?) → (∀ k, k < w.heap.size → z ≤ k → k ≠ p13 → k ≠ p17 → v13.ownBlock ≠ some k → u.ownBlock ≠ some k) → Q .normal ⟨Ord.Fr m18 tm vals, []⟩ W) : (Code.region 18 m18.toArray true).wp Try.prog Q ⟨tm, []⟩ w := by
  have hmem : ∀ k, k ∈ (List.range w.heap.size).filter (fun k => decide (z ≤ k ∧ k ≠ p13 ∧ k ≠ p17 ∧ v13.ownBlock ≠ some k)) ↔ k < w.heap.size ∧ z ≤ k ∧ k ≠ p13 ∧ k ≠ p17 ∧ v13.ownBlock ≠ some k := fun k => by simp
  refine more_r18 (B := (List.range w.heap.size).filter (fun k => decide (z ≤ k ∧ k ≠ p13 ∧ k ≠ p17 ∧ v13.ownBlock ≠ some k))) (K := fun W => ∀ k ∈ (List.range w.heap.size).filter (fun k => decide (z ≤ k ∧ k ≠ p13 ∧ k ≠ p17 ∧ v13.ownBlock ≠ some k)), W.heap[k]? = w.heap[k]?) hsz h13 h15 h17 b13 b17 own hl hz13 hz17 hzr hzw (fun k e => ⟨hov k e, fun h => ((hmem k).1 h).2.2.2.2 e⟩) (fun w1 w2 h h1 k hk => (h k hk).trans (h1 k hk)) (fun _ _ => rfl) (fun w1 h => h) (fun k hk => ⟨((hmem k).1 hk).2.1, ((hmem k).1 hk).1⟩) (fun h => ((hmem _).1 h).2.2.1 rfl) (fun h => ((hmem _).1 h).2.2.2.1 rfl) ?_
  intro vals W u hB hv h1 h2 hK hd
  refine hexit vals W u hB hv h1 h2 (fun k hk a1 a2 a3 => ?_) fun k hk hz a1 a2 a3 e => hd k e ((hmem k).2 ⟨hk, hz, a1, a2, a3⟩)
  by_cases hkz : z ≤ k
  · exact hK k ((hmem k).2 ⟨hk, hkz, a1, a2, a3⟩)
  · exact hB.block k (by omega)
def so18 (j : Nat) : Option Nat := bif Nat.beq j 15 then some 14 else bif Nat.blt j 168 then none else bif Nat.blt j 181 then some (j - 168) else none
theorem so18_ok : ((List.range 495).all fun j => Ord.soL m18 j == so18 j) = true := by kernel_rfl
end Go.Proofs.Ytjbjmoghloabpaa
