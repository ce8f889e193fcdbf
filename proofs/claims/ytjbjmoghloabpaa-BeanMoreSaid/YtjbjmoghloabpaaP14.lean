/- Parts of a proof: BnPl, BnRefH, BnRefI, BnRefJ, BnRefK, BnAC. -/
import Derived.Test.YtjbjmoghloabpaaP05
import Derived.Test.YtjbjmoghloabpaaP02
import Derived.Laws.ResultCell
import Derived.Test.YtjbjmoghloabpaaP03
import Derived.Test.YtjbjmoghloabpaaP11
import Derived.Test.YtjbjmoghloabpaaP13
set_option linter.unusedVariables false
set_option linter.unusedSimpArgs false
namespace Go.Proofs.Ytjbjmoghloabpaa
open Go.RowKit Go.Proofs

def Sat (t : Ti) (c : Nat → Bool) : Prop := ∀ i, i < 8 → c i = (c (t i).1 == (t i).2)
structure TInv (V : Nat) (t : Ti) : Prop where
  le : ∀ i, i < 8 → (t i).1 ≤ i
  rep : ∀ i, i < 8 → t (t i).1 = ((t i).1, true)
  far : ∀ i, V ≤ i → i < 8 → t i = (i, true)
theorem TInv.free (V : Nat) : TInv V freeT := ⟨fun i _ => Nat.le_refl i, fun i _ => rfl, fun i _ _ => rfl⟩
theorem Sat.free (c : Nat → Bool) : Sat freeT c := fun i _ => by simp [freeT]
theorem TInv.lt {V : Nat} {t : Ti} (h : TInv V t) {i : Nat} (hi : i < 8) (hv : i < V) : (t i).1 < V := by have := h.le i hi; omega
theorem TInv.tied {V : Nat} {t : Ti} (h : TInv V t) {A B : Nat} (hA : A < 8) (hB : B < 8) (hAV : A < V) (hBV : B < V) (s : Bool) : TInv V (tiedT t A B s) := by
  unfold tiedT
  split
  · exact h
  · rename_i hne
    have h1 := h.le A hA
    have h2 := h.le B hB
    have h3 := h.rep A hA
    have h4 := h.rep B hB
    have hm : toT t A B < frT t A B := by unfold toT frT; omega
    have hto : t (toT t A B) = (toT t A B, true) := by
      unfold toT; rcases Nat.le_total (t A).1 (t B).1 with q | q
      · rw [Nat.min_eq_left q]; exact h3
      · rw [Nat.min_eq_right q]; exact h4
    have hf8 : frT t A B < 8 := by unfold frT; omega
    have hfV : frT t A B < V := by unfold frT; omega
    generalize frT t A B = fr at *
    generalize toT t A B = too at *
    generalize sameT t A B s = sm at *
    have hval : ∀ i, i < 8 → mergeTo t fr too sm 8 i = if (t i).1 = fr then (too, (t i).2 == sm) else t i := fun i hi => by simp [mergeTo, hi]
    have hi1 := h.le
    refine ⟨fun i hi => ?_, fun i hi => ?_, fun i hv hi => ?_⟩
    · rw [hval i hi]
      have := h.le i hi
      split
      · simp only; omega
      · exact this
    · rw [hval i hi]
      split
      · rename_i hr
        simp only
        rw [hval too (by omega), hto]
        simp only
        rw [if_neg (by omega)]
      · rename_i hr
        have := h.rep i hi
        have h8 := h.le i hi
        rw [hval _ (by omega), this]
        simp only
        rw [if_neg hr]
    · rw [hval i hi, h.far i hv hi]
      simp only
      rw [if_neg (by omega)]
theorem tied_sat {V : Nat} {t : Ti} (h : TInv V t) {A B : Nat} (hA : A < 8) (hB : B < 8) (s : Bool) (c : Nat → Bool) :
    (Sat t c ∧ ((c A == c B) == s) = true) ↔ (tiedOk t A B s = true ∧ Sat (tiedT t A B s) c) := by
  unfold tiedT tiedOk
  split
  · rename_i he
    have : Sat t c → (((c A == c B) == s) = sameT t A B s) := by
      intro hs
      have a1 := hs A hA
      have b1 := hs B hB
      rw [he] at a1
      unfold sameT
      rw [a1, b1]
      generalize c (t B).1 = x
      generalize (t A).2 = y
      generalize (t B).2 = z
      cases x <;> cases y <;> cases z <;> cases s <;> rfl
    constructor
    · intro ⟨h1, h2⟩; exact ⟨(this h1).symm.trans h2, h1⟩
    · intro ⟨h1, h2⟩; exact ⟨h2, (this h2).trans h1⟩
  · rename_i hne
    have h1 := h.le A hA
    have h2 := h.le B hB
    have h3 := h.rep A hA
    have h4 := h.rep B hB
    have key : Sat t c → ((((c A == c B) == s) = true) ↔ c (frT t A B) = (c (toT t A B) == sameT t A B s)) := by
      intro hs
      have a1 := hs A hA
      have b1 := hs B hB
      unfold sameT frT toT
      rw [a1, b1]
      rcases Nat.le_total (t A).1 (t B).1 with q | q
      · rw [Nat.min_eq_left q, Nat.max_eq_right q]
        generalize c (t B).1 = x
        generalize c (t A).1 = x'
        generalize (t A).2 = y
        generalize (t B).2 = z
        cases x <;> cases x' <;> cases y <;> cases z <;> cases s <;> decide
      · rw [Nat.min_eq_right q, Nat.max_eq_left q]
        generalize c (t B).1 = x
        generalize c (t A).1 = x'
        generalize (t A).2 = y
        generalize (t B).2 = z
        cases x <;> cases x' <;> cases y <;> cases z <;> cases s <;> decide
    have hm : toT t A B < frT t A B := by unfold toT frT; omega
    have hfr : t (frT t A B) = (frT t A B, true) := by
      unfold frT; rcases Nat.le_total (t A).1 (t B).1 with q | q
      · rw [Nat.max_eq_right q]; exact h4
      · rw [Nat.max_eq_left q]; exact h3
    have hf8 : frT t A B < 8 := by unfold frT; omega
    generalize frT t A B = fr at *
    generalize toT t A B = too at *
    generalize sameT t A B s = sm at *
    have hval : ∀ i, i < 8 → mergeTo t fr too sm 8 i = if (t i).1 = fr then (too, (t i).2 == sm) else t i := fun i hi => by simp [mergeTo, hi]
    constructor
    · intro ⟨hs, hp⟩
      have hk := (key hs).1 hp
      refine ⟨rfl, fun i hi => ?_⟩
      rw [hval i hi]
      split
      · rename_i hr
        rw [hs i hi, hr, hk]
        simp only
        generalize c too = x
        generalize (t i).2 = y
        cases x <;> cases y <;> cases sm <;> rfl
      · exact hs i hi
    · intro ⟨_, hs⟩
      have hk : c fr = (c too == sm) := by
        have := hs fr hf8
        rw [hval fr hf8, hfr] at this
        simpa using this
      have hs2 : Sat t c := by
        intro i hi
        by_cases hr : (t i).1 = fr
        · have := hs i hi
          rw [hval i hi, if_pos hr] at this
          rw [this, hr, hk]
          simp only
          generalize c too = x
          generalize (t i).2 = y
          cases x <;> cases y <;> cases sm <;> rfl
        · have := hs i hi
          rwa [hval i hi, if_neg hr] at this
      exact ⟨hs2, (key hs2).2 hk⟩

/-- How many of a group gave white beans. -/
def cntG (vo : Nat) (c : Nat → Bool) : Nat := (List.range 8).countP fun i => hasB vo i && c i
/-- Is one thing right? -/
def rightK (c : Nat → Bool) : Kn → Bool
  | .g vo lo hi => inB (cntG vo c : Nat) lo hi
  | .p a b s => (c a == c b) == s
def pairR (c : Nat → Bool) : Kn → Bool
  | .g .. => true
  | .p a b s => (c a == c b) == s
def grOfK : Kn → Option Gr
  | .g vo lo hi => some (vo, lo, hi)
  | .p .. => none
def grR (c : Nat → Bool) (g : Gr) : Bool := inB (cntG g.1 c : Nat) g.2.1 g.2.2
def knIn (V : Nat) : Kn → Prop
  | .g vo _ _ => vo < 256
  | .p a b _ => a < V ∧ b < V
theorem right_split (c : Nat → Bool) (L : List Kn) : L.all (rightK c) = (L.all (pairR c) && (L.filterMap grOfK).all (grR c)) := by
  induction L with
  | nil => rfl
  | cons x L ih =>
    rw [List.all_cons, List.all_cons, ih]
    cases x with
    | g vo lo hi => simp [rightK, pairR, grOfK, grR]; generalize inB _ _ _ = y; generalize L.all (pairR c) = z; cases y <;> cases z <;> simp
    | p a b s => simp [rightK, pairR, grOfK, Bool.and_assoc]
theorem kstep_none (L : List Kn) : L.foldl kstep none = none := by induction L with | nil => rfl | cons x L ih => simp [kstep, ih]
/-- What is left: the ties, and the groups. -/
theorem kfold_sat (V : Nat) (hV : V ≤ 8) : ∀ (L : List Kn) (_ : ∀ x ∈ L, knIn V x) (t : Ti) (gs : List Gr) (_ : TInv V t),
    match L.foldl kstep (some (t, gs)) with
    | none => ∀ c, ¬ (Sat t c ∧ L.all (pairR c) = true)
    | some (t', gs') => TInv V t' ∧ gs' = gs ++ L.filterMap grOfK ∧ ∀ c, (Sat t c ∧ L.all (pairR c) = true) ↔ Sat t' c
  | [], _, t, gs, ht => ⟨ht, by simp, fun c => by simp⟩
  | x :: L, hok, t, gs, ht => by
    have hL : ∀ y ∈ L, knIn V y := fun y hy => hok y (List.mem_cons_of_mem _ hy)
    have hx := hok x (List.mem_cons_self ..)
    rw [List.foldl_cons]
    cases x with
    | g vo lo hi =>
      have ih := kfold_sat V hV L hL t (gs ++ [(vo, lo, hi)]) ht
      simp only [kstep]
      generalize List.foldl kstep (some (t, gs ++ [(vo, lo, hi)])) L = r at *
      cases r with
      | none => intro c ⟨h1, h2⟩; exact ih c ⟨h1, by simpa [pairR] using h2⟩
      | some p =>
        obtain ⟨h1, h2, h3⟩ := ih
        exact ⟨h1, by rw [h2]; simp [grOfK], fun c => by rw [← h3 c]; simp [pairR]⟩
    | p a b s =>
      have ha : a < 8 := Nat.lt_of_lt_of_le hx.1 hV
      have hb : b < 8 := Nat.lt_of_lt_of_le hx.2 hV
      have hts := tied_sat ht ha hb s
      simp only [kstep]
      by_cases hk : tiedOk t a b s = true
      · rw [if_pos hk]
        have ih := kfold_sat V hV L hL (tiedT t a b s) gs (ht.tied ha hb hx.1 hx.2 s)
        have e : ∀ c, (Sat t c ∧ (List.all (.p a b s :: L) (pairR c)) = true) ↔ (Sat (tiedT t a b s) c ∧ L.all (pairR c) = true) := by
          intro c
          have := hts c
          rw [List.all_cons, Bool.and_eq_true]
          simp only [pairR]
          constructor
          · intro ⟨h1, h2, h3⟩; exact ⟨(this.1 ⟨h1, h2⟩).2, h3⟩
          · intro ⟨h1, h3⟩; have := this.2 ⟨hk, h1⟩; exact ⟨this.1, this.2, h3⟩
        generalize List.foldl kstep (some (tiedT t a b s, gs)) L = r at *
        cases r with
        | none => intro c h; exact ih c ((e c).1 h)
        | some p =>
          obtain ⟨h1, h2, h3⟩ := ih
          exact ⟨h1, by rw [h2, List.filterMap_cons]; rfl, fun c => (e c).trans (h3 c)⟩
      · rw [if_neg hk, kstep_none]
        intro c ⟨h1, h2⟩
        rw [List.all_cons, Bool.and_eq_true] at h2
        exact hk ((hts c).1 ⟨h1, h2.1⟩).1

def bitsL (V w : Nat) : List Bool := (List.range V).map (hasB w)
def allC (V : Nat) : List (List Bool) := (List.range (2 ^ V)).map (bitsL V)
theorem hasB_zero (w : Nat) : hasB w 0 = (w % 2 == 1) := by simp [hasB]
theorem hasB_succ (w i : Nat) : hasB w (i + 1) = hasB (w / 2) i := by
  unfold hasB; rw [Nat.pow_succ, Nat.mul_comm, ← Nat.div_div_eq_div_mul]
theorem bitsL_succ (V w : Nat) : bitsL (V + 1) w = hasB w 0 :: bitsL V (w / 2) := by
  unfold bitsL
  rw [List.range_succ_eq_map, List.map_cons, List.map_map]
  congr 1
  apply List.map_congr_left
  intro i _
  exact hasB_succ w i
theorem bitsL_inj : ∀ (V x y : Nat), x < 2 ^ V → y < 2 ^ V → bitsL V x = bitsL V y → x = y
  | 0, x, y, hx, hy, _ => by simp at hx hy; omega
  | V + 1, x, y, hx, hy, h => by
    rw [bitsL_succ, bitsL_succ, List.cons.injEq, hasB_zero, hasB_zero] at h
    rw [Nat.pow_succ] at hx hy
    have ih := bitsL_inj V (x / 2) (y / 2) (by omega) (by omega) h.2
    have h1 : x % 2 = y % 2 := by
      have := h.1
      rw [Bool.eq_iff_iff, beq_iff_eq, beq_iff_eq] at this
      omega
    omega
theorem bitsL_sur : ∀ (V : Nat) (l : List Bool), l.length = V → ∃ w, w < 2 ^ V ∧ bitsL V w = l
  | 0, [], _ => ⟨0, by simp, rfl⟩
  | V + 1, b :: l, h => by
    obtain ⟨w, hw, rfl⟩ := bitsL_sur V l (by simpa using h)
    refine ⟨b.toNat + 2 * w, ?_, ?_⟩
    · rw [Nat.pow_succ]; have := Bool.toNat_le b; omega
    · rw [bitsL_succ, hasB_zero]
      have h1 : (b.toNat + 2 * w) / 2 = w := by have := Bool.toNat_le b; cases b <;> simp <;> omega
      have h2 : (b.toNat + 2 * w) % 2 = b.toNat := by cases b <;> simp <;> omega
      rw [h1, h2]
      cases b <;> rfl
theorem bitsL_len (V w : Nat) : (bitsL V w).length = V := by simp [bitsL]
theorem bitsL_get (V w i : Nat) (h : i < V) : (bitsL V w).getD i false = hasB w i := by simp [bitsL, List.getD, h]
theorem allC_nodup (V : Nat) : (allC V).Nodup := by
  unfold allC List.Nodup
  rw [List.pairwise_map]
  have h := List.nodup_range (n := 2 ^ V)
  refine List.Pairwise.imp_of_mem ?_ h
  intro a b ha hb hne he
  exact hne (bitsL_inj V a b (List.mem_range.1 ha) (List.mem_range.1 hb) he)
theorem mem_allC (V : Nat) (l : List Bool) : l ∈ allC V ↔ l.length = V := by
  unfold allC
  rw [List.mem_map]
  constructor
  · rintro ⟨w, _, rfl⟩; exact bitsL_len V w
  · intro h; obtain ⟨w, hw, e⟩ := bitsL_sur V l h; exact ⟨w, List.mem_range.2 hw, e⟩

def condK (t : Ti) (V k : Nat) (l : List Bool) : Bool := decide (∀ i, i < V → l.getD i false = if (t i).1 < k then (l.getD (t i).1 false == (t i).2) else false)
def updK (t : Ti) (V k : Nat) (b : Bool) (l : List Bool) : List Bool := (List.range V).map fun i => if (t i).1 = k then (b == (t i).2) else l.getD i false
def stL (gs : List Gr) (V : Nat) (l : List Bool) : St := fun j => (List.range V).countP fun i => l.getD i false && inG gs i j
theorem updK_get (t : Ti) (V k : Nat) (b : Bool) (l : List Bool) (i : Nat) (h : i < V) : (updK t V k b l).getD i false = if (t i).1 = k then (b == (t i).2) else l.getD i false := by
  simp [updK, List.getD, h]
theorem ext_getD {l m : List Bool} (h : l.length = m.length) (hg : ∀ i, i < l.length → l.getD i false = m.getD i false) : l = m := by
  apply List.ext_getElem h
  intro i h1 h2
  have := hg i h1
  simpa [List.getD, h1, h2] using this
theorem choose_eq (gs : List Gr) (t : Ti) (V k : Nat) (b : Bool) (l : List Bool) (hl : ∀ i, i < V → (t i).1 = k → l.getD i false = false) (s : St) (hs : ∀ j, j < 7 → s j = stL gs V l j) (hgl : gs.length ≤ 7) :
    ∀ j, j < 7 → chooseTo gs t k b s V j = stL gs V (updK t V k b l) j := by
  have key : ∀ n, n ≤ V → ∀ j, j < 7 → chooseTo gs t k b s n j + (List.range n).countP (fun i => l.getD i false && inG gs i j) = s j + (List.range n).countP (fun i => (updK t V k b l).getD i false && inG gs i j) := by
    intro n
    induction n with
    | zero => intro _ j _; simp [chooseTo]
    | succ n ih =>
      intro hn j hj
      have ih := ih (by omega) j hj
      rw [List.range_succ, List.countP_append, List.countP_append, List.countP_singleton, List.countP_singleton, updK_get t V k b l n (by omega)]
      simp only [chooseTo]
      by_cases hr : (t n).1 = k
      · have h0 := hl n (by omega) hr
        rw [if_pos hr, h0]
        by_cases hb : (t n).2 = b
        · rw [if_pos ⟨hr, hb⟩, hb]
          simp only [withS, withTo, Bool.false_and, Bool.false_eq_true, if_false, beq_self_eq_true, Bool.true_and]
          by_cases hg : j < gs.length ∧ inG gs n j = true
          · rw [if_pos hg, if_pos hg.2]; omega
          · rw [if_neg hg]
            have : inG gs n j = false := by
              by_cases h1 : j < gs.length
              · simpa [h1] using hg
              · unfold inG; rw [List.getElem?_eq_none (by omega)]
            simp only [this, Bool.and_false, Bool.false_eq_true, if_false]; omega
        · rw [if_neg (fun h => hb h.2)]
          have : (b == (t n).2) = false := by simpa using fun h => hb h.symm
          simp only [this, Bool.false_and, Bool.and_false, Bool.false_eq_true, if_false]; omega
      · rw [if_neg (fun h => hr h.1), if_neg hr]; omega
  intro j hj
  have := key V (Nat.le_refl _) j hj
  have h2 := hs j hj
  unfold stL at h2 ⊢
  omega
theorem x7_congr {s s' : St} (h : ∀ j, j < 7 → s j = s' j) : x7 s = x7 s' := by
  simp only [x7]
  rw [h 0 (by omega), h 1 (by omega), h 2 (by omega), h 3 (by omega), h 4 (by omega), h 5 (by omega), h 6 (by omega)]
theorem flatMap_perm {α β : Type} {l m : List α} (f : α → List β) (h : l.Perm m) : (l.flatMap f).Perm (m.flatMap f) := h.flatMap_right f

theorem flatMap_ext {α β : Type} {l : List α} {f g : α → List β} (h : ∀ a ∈ l, f a = g a) : l.flatMap f = l.flatMap g := by
  induction l with
  | nil => rfl
  | cons a l ih => rw [List.flatMap_cons, List.flatMap_cons, h a (List.mem_cons_self ..), ih fun b hb => h b (List.mem_cons_of_mem _ hb)]

theorem states_perm {V : Nat} (hV : V ≤ 8) {t : Ti} (ht : TInv V t) (gs : List Gr) (hgl : gs.length ≤ 7) : ∀ k, k ≤ V → (statesTo gs t V k).Perm (((allC V).filter (condK t V k)).map fun l => x7 (stL gs V l)) := by
  intro k
  induction k with
  | zero =>
    intro _
    have h1 : ((allC V).filter (condK t V 0)).Perm [List.replicate V false] := by
      refine (List.perm_ext_iff_of_nodup ((allC_nodup V).sublist List.filter_sublist) (by simp)).2 fun l => ?_
      rw [List.mem_filter, mem_allC, List.mem_singleton]
      constructor
      · intro ⟨h1, h2⟩
        simp only [condK, decide_eq_true_eq, Nat.not_lt_zero, if_false] at h2
        refine ext_getD (by simp [h1]) fun i hi => ?_
        rw [h2 i (by omega)]
        simp [List.getD, List.getElem?_replicate]; split <;> rfl
      · rintro rfl
        refine ⟨by simp, ?_⟩
        simp only [condK, decide_eq_true_eq, Nat.not_lt_zero, if_false]
        intro i hi
        simp [List.getD, List.getElem?_replicate, hi]
    refine List.Perm.trans ?_ (h1.map _).symm
    have : ∀ j, stL gs V (List.replicate V false) j = 0 := by
      intro j
      unfold stL
      rw [List.countP_eq_zero]
      intro i hi
      have : (List.replicate V false).getD i false = false := by simp [List.getD, List.getElem?_replicate]; split <;> rfl
      rw [this]; simp
    simp only [List.map_cons, List.map_nil, x7, this]
    exact List.Perm.refl _
  | succ k ih =>
    intro hk
    have ih := ih (by omega)
    simp only [statesTo]
    by_cases hr : (t k).1 = k
    · rw [if_pos hr]
      have hkk : t k = (k, true) := by have := ht.rep k (by omega); rwa [hr] at this
      refine (flatMap_perm _ ih).trans ?_
      rw [List.flatMap_map]
      have hch : ∀ l ∈ (allC V).filter (condK t V k), ∀ b, chooseX gs t V k b (x7 (stL gs V l)) = x7 (stL gs V (updK t V k b l)) := by
        intro l hl b
        rw [List.mem_filter] at hl
        have hc := hl.2
        simp only [condK, decide_eq_true_eq] at hc
        unfold chooseX
        exact x7_congr (choose_eq gs t V k b l (fun i hi he => by rw [hc i hi, if_neg (by omega)]) _ (fun j hj => f7_x7 _ j hj) hgl)
      have e1 : (((allC V).filter (condK t V k)).flatMap fun l => [chooseX gs t V k false (x7 (stL gs V l)), chooseX gs t V k true (x7 (stL gs V l))]) =
          (((allC V).filter (condK t V k)).flatMap fun l => [updK t V k false l, updK t V k true l]).map fun l => x7 (stL gs V l) := by
        rw [List.map_flatMap]
        apply flatMap_ext
        intro l hl
        simp only [List.map_cons, List.map_nil]
        rw [hch l hl, hch l hl]
      rw [e1]
      refine List.Perm.map _ ?_
      refine (List.perm_ext_iff_of_nodup ?_ ((allC_nodup V).sublist List.filter_sublist)).2 fun l => ?_
      · unfold List.Nodup
        rw [List.pairwise_flatMap]
        refine ⟨fun l hl => ?_, ?_⟩
        · simp only [List.pairwise_cons, List.mem_singleton, List.not_mem_nil, false_implies, implies_true, List.Pairwise.nil, and_true]
          rintro _ rfl he
          have := congrArg (fun l => l.getD k false) he
          (try simp only at this)
          rw [updK_get _ _ _ _ _ _ (by omega), updK_get _ _ _ _ _ _ (by omega), if_pos hr, if_pos hr, hkk] at this
          simp at this
        · refine List.Pairwise.imp_of_mem ?_ ((allC_nodup V).sublist (List.filter_sublist (p := condK t V k)))
          intro l m hl hm hne x hx y hy he
          rw [List.mem_filter, mem_allC] at hl hm
          have hcl := hl.2
          have hcm := hm.2
          simp only [condK, decide_eq_true_eq] at hcl hcm
          apply hne
          refine ext_getD (by rw [hl.1, hm.1]) fun i hi => ?_
          have hiV : i < V := by omega
          by_cases hik : (t i).1 = k
          · rw [hcl i hiV, hcm i hiV, if_neg (by omega), if_neg (by omega)]
          · have hg := congrArg (fun l => l.getD i false) he
            (try simp only at hg)
            simp only [List.mem_cons, List.not_mem_nil, or_false] at hx hy
            rcases hx with rfl | rfl <;> rcases hy with rfl | rfl <;> rwa [updK_get _ _ _ _ _ _ hiV, updK_get _ _ _ _ _ _ hiV, if_neg hik, if_neg hik] at hg
      · rw [List.mem_flatMap, List.mem_filter, mem_allC]
        have hlt : ∀ i, i < V → (t i).1 < V := fun i hi => ht.lt (by omega) hi
        constructor
        · rintro ⟨m, hm, hx⟩
          rw [List.mem_filter, mem_allC] at hm
          have hc := hm.2
          simp only [condK, decide_eq_true_eq] at hc
          have : ∃ b, l = updK t V k b m := by
            simp only [List.mem_cons, List.not_mem_nil, or_false] at hx
            rcases hx with rfl | rfl
            · exact ⟨false, rfl⟩
            · exact ⟨true, rfl⟩
          obtain ⟨b, rfl⟩ := this
          refine ⟨by simp [updK], ?_⟩
          simp only [condK, decide_eq_true_eq]
          intro i hi
          rw [updK_get _ _ _ _ _ _ hi, updK_get _ _ _ _ _ _ (hlt i hi), ht.rep i (by omega)]
          (try simp only)
          by_cases hik : (t i).1 = k
          · rw [if_pos hik, if_pos hik, if_pos (by omega)]
            cases b <;> rfl
          · rw [if_neg hik, if_neg hik, hc i hi]
            by_cases h2 : (t i).1 < k
            · rw [if_pos h2, if_pos (by omega)]
            · rw [if_neg h2, if_neg (by omega)]
        · intro ⟨h1, h2⟩
          simp only [condK, decide_eq_true_eq] at h2
          let m := (List.range V).map fun i => if (t i).1 = k then false else l.getD i false
          have hm : ∀ i, i < V → m.getD i false = if (t i).1 = k then false else l.getD i false := fun i hi => by simp [m, List.getD, hi]
          refine ⟨m, ?_, ?_⟩
          · rw [List.mem_filter, mem_allC]
            refine ⟨by simp [m], ?_⟩
            simp only [condK, decide_eq_true_eq]
            intro i hi
            rw [hm i hi, hm _ (hlt i hi), ht.rep i (by omega)]
            (try simp only)
            by_cases hik : (t i).1 = k
            · rw [if_pos hik, if_neg (by omega)]
            · rw [if_neg hik, if_neg hik, h2 i hi]
              by_cases h3 : (t i).1 < k
              · rw [if_pos h3, if_pos (by omega)]
              · rw [if_neg h3, if_neg (by omega)]
          · have : l = updK t V k (l.getD k false) m := by
              refine ext_getD (by simp [updK, h1]) fun i hi => ?_
              have hiV : i < V := by omega
              rw [updK_get _ _ _ _ _ _ hiV, hm i hiV]
              by_cases hik : (t i).1 = k
              · rw [if_pos hik, h2 i hiV, if_pos (by omega), hik]
              · rw [if_neg hik, if_neg hik]
            simp only [List.mem_cons, List.not_mem_nil, or_false]
            generalize l.getD k false = b at this
            cases b
            · exact .inl this
            · exact .inr this
    · rw [if_neg hr]
      have : condK t V (k + 1) = condK t V k := by
        funext l
        unfold condK
        congr 1
        apply propext
        apply forall_congr'
        intro i
        apply imp_congr_right
        intro hi
        have hne : (t i).1 ≠ k := by
          intro he
          have := ht.rep i (by omega)
          rw [he] at this
          exact hr (by rw [this])
        by_cases h2 : (t i).1 < k
        · rw [if_pos h2, if_pos (by omega)]
        · rw [if_neg h2, if_neg (by omega)]
      rw [this]
      exact ih

theorem hasB_big {w i : Nat} (h : w < 2 ^ i) : hasB w i = false := by
  unfold hasB; rw [Nat.div_eq_of_lt h]; rfl
theorem hasB_all (n i : Nat) (h : i < n) : hasB (2 ^ n - 1) i = true := by
  have h1 := Nat.testBit_two_pow_sub_one n i
  rw [Nat.testBit_eq_decide_div_mod_eq] at h1
  unfold hasB
  simpa [h] using h1
theorem sz_eq : ∀ w, w < 256 → sz w = (List.range 8).countP (hasB w) := by decide +kernel
theorem cntG_all {V w : Nat} (hV : V ≤ 8) (hw : w < 2 ^ V) : cntG (2 ^ V - 1) (hasB w) = sz w := by
  have h8 : (2 : Nat) ^ V ≤ 2 ^ 8 := Nat.pow_le_pow_right (by omega) hV
  rw [sz_eq w (by omega)]
  unfold cntG
  apply List.countP_congr
  intro i hi
  by_cases h : i < V
  · rw [hasB_all V i h]; simp
  · rw [hasB_big (Nat.lt_of_lt_of_le hw (Nat.pow_le_pow_right (by omega) (by omega)))]; simp
theorem countP_range_ext {n m : Nat} (h : n ≤ m) (p : Nat → Bool) (hp : ∀ i, n ≤ i → p i = false) : (List.range m).countP p = (List.range n).countP p := by
  induction m with
  | zero => have : n = 0 := by omega
            subst this; rfl
  | succ m ih =>
    by_cases hm : n = m + 1
    · subst hm; rfl
    · rw [List.range_succ, List.countP_append, List.countP_singleton, hp m (by omega), ih (by omega)]; simp
theorem fits_all (gs : List Gr) (s : St) : fitsB gs s = (List.range gs.length).all fun j => match gs[j]? with | some g => inB (s j) g.2.1 g.2.2 | none => true := rfl
theorem all_range_get (gs : List Gr) (f : Gr → Bool) (k : Nat → Gr → Bool) (h : ∀ j, (hj : j < gs.length) → k j gs[j] = f gs[j]) :
    ((List.range gs.length).all fun j => match gs[j]? with | some g => k j g | none => true) = gs.all f := by
  rw [Bool.eq_iff_iff, List.all_eq_true, List.all_eq_true]
  constructor
  · intro hh x hx
    obtain ⟨j, hj, rfl⟩ := List.getElem_of_mem hx
    have := hh j (List.mem_range.2 hj)
    rw [List.getElem?_eq_getElem hj] at this
    rw [← h j hj]; exact this
  · intro hh j hj
    have hj := List.mem_range.1 hj
    rw [List.getElem?_eq_getElem hj]
    show k j gs[j] = true
    rw [h j hj]; exact hh _ (List.getElem_mem hj)
/-- How many truths there are with n white beans. -/
theorem countN_eq {V : Nat} (hV : V ≤ 8) (lo hi : Int) (L : List Kn) (hok : ∀ x ∈ L, knIn V x) (hgl : (L.filterMap grOfK).length ≤ 6) (n : Nat) :
    countN V lo hi L n = (List.range (2 ^ V)).countP fun w => inB (sz w : Nat) lo hi && L.all (rightK (hasB w)) && (sz w == n) := by
  have hk := kfold_sat V hV L hok freeT [(2 ^ V - 1, lo, hi)] (TInv.free V)
  unfold countN kfold
  generalize List.foldl kstep (some (freeT, [(2 ^ V - 1, lo, hi)])) L = r at *
  cases r with
  | none =>
    simp only
    refine Eq.symm (List.countP_eq_zero.2 fun w hw => ?_)
    rw [right_split]
    have := hk (hasB w)
    have h2 : L.all (pairR (hasB w)) = false := by
      cases h : L.all (pairR (hasB w))
      · rfl
      · exact absurd ⟨Sat.free _, h⟩ this
    rw [h2]; simp
  | some p =>
    obtain ⟨t, gs⟩ := p
    obtain ⟨ht, hgs, hs⟩ := hk
    have hgl7 : gs.length ≤ 7 := by rw [hgs]; simp; omega
    simp only
    unfold outN
    rw [(states_perm hV ht gs hgl7 V (Nat.le_refl _)).countP_eq, List.countP_map, List.countP_filter]
    unfold allC
    rw [List.countP_map]
    apply List.countP_congr
    intro w hw
    have hw := List.mem_range.1 hw
    have hlt : ∀ i, i < V → (t i).1 < V := fun i hi => ht.lt (by omega) hi
    have e1 : condK t V V (bitsL V w) = L.all (pairR (hasB w)) := by
      rw [Bool.eq_iff_iff]
      unfold condK
      rw [decide_eq_true_eq]
      have := hs (hasB w)
      constructor
      · intro h
        refine (this.2 fun i hi => ?_).2
        by_cases hv : i < V
        · have := h i hv
          rwa [if_pos (hlt i hv), bitsL_get _ _ _ hv, bitsL_get _ _ _ (hlt i hv)] at this
        · rw [ht.far i (by omega) hi]; simp
      · intro h i hv
        have := (this.1 ⟨Sat.free _, h⟩) i (by omega)
        rwa [if_pos (hlt i hv), bitsL_get _ _ _ hv, bitsL_get _ _ _ (hlt i hv)]
    have e2 : ∀ j, (hj : j < gs.length) → stL gs V (bitsL V w) j = cntG gs[j].1 (hasB w) := by
      intro j hj
      unfold stL cntG
      rw [countP_range_ext hV]
      · apply List.countP_congr
        intro i hi
        rw [bitsL_get _ _ _ (List.mem_range.1 hi)]
        unfold inG
        rw [List.getElem?_eq_getElem hj]
        simp only
        rw [Bool.and_comm]
      · intro i hi
        rw [hasB_big (Nat.lt_of_lt_of_le hw (Nat.pow_le_pow_right (by omega) hi)), Bool.and_false]
    have e3 : fitsB gs (f7 (x7 (stL gs V (bitsL V w)))) = gs.all (grR (hasB w)) := by
      rw [fits_all]
      refine all_range_get gs (grR (hasB w)) (fun j g => inB (f7 (x7 (stL gs V (bitsL V w))) j) g.2.1 g.2.2) fun j hj => ?_
      (try simp only)
      rw [f7_x7 _ j (by omega), e2 j hj]
      rfl
    have e4 : f7 (x7 (stL gs V (bitsL V w))) 0 = sz w := by
      rw [f7_x7 _ 0 (by omega), e2 0 (by rw [hgs]; simp)]
      rw [← cntG_all hV hw]
      congr 1
      simp [hgs]
    simp only [Function.comp]
    rw [e1, e3, e4, right_split, hgs, List.all_append]
    have e5 : [((2 ^ V - 1, lo, hi) : Gr)].all (grR (hasB w)) = inB (sz w : Nat) lo hi := by
      simp only [List.all_cons, List.all_nil, Bool.and_true, grR, cntG_all hV hw]
    rw [e5]
    generalize inB (sz w : Nat) lo hi = x
    generalize (L.filterMap grOfK).all (grR (hasB w)) = y
    generalize L.all (pairR (hasB w)) = z
    cases x <;> cases y <;> cases z <;> simp
end Go.Proofs.Ytjbjmoghloabpaa
set_option linter.unusedVariables false
set_option linter.unusedSimpArgs false
namespace Go.Proofs.Ytjbjmoghloabpaa
open Go.RowKit Go.Proofs

theorem chkE_zero {b : Bn} {vb : Bool} (h : chkE b vb = 0) : valid b = true ∧ vb = true := by
  unfold chkE at h
  cases hv : valid b <;> cases vb <;> simp [hv] at h ⊢
theorem Small.filter {l : List Nat} (h : Small l) (p : Nat → Bool) : Small (l.filter p) := fun x hx => h x (List.mem_filter.1 hx).1

/-- Is a number that of a voter, as the reference asks it? -/
def voterB (b : Bn) (n : Int) : Bool := inB n 0 (wrap64 (b.V - 1))
theorem voterB_of {b : Bn} (hv : valid b = true) (n : Int) : voterB b n = inB n 0 (b.V - 1) := by
  have := valid_V hv
  unfold voterB; rw [IntWalk.wrap64_in _ (by omega)]

end Go.Proofs.Ytjbjmoghloabpaa
set_option linter.unusedVariables false
set_option linter.unusedSimpArgs false
namespace Go.Proofs.Ytjbjmoghloabpaa
open Go.RowKit Go.Proofs

def passN (l : List Nat) (nd : Int) : Nat := l.countP (fun x => decide (nd ≤ (sz x : Int)))

end Go.Proofs.Ytjbjmoghloabpaa
set_option linter.unusedVariables false
set_option linter.unusedSimpArgs false
namespace Go.Proofs.Ytjbjmoghloabpaa
open Go.RowKit Go.Proofs

def sameN (l : List Nat) (v u : Nat) : Nat := l.countP (fun x => hasB x v == hasB x u)

end Go.Proofs.Ytjbjmoghloabpaa
set_option linter.unusedVariables false
set_option linter.unusedSimpArgs false
namespace Go.Proofs.Ytjbjmoghloabpaa
open Go.RowKit Go.Proofs

def loL (l : List Nat) : Nat := l.foldl (fun m x => min m (sz x)) (sz (l.headD 0))
def hiL (l : List Nat) : Nat := l.foldl (fun m x => max m (sz x)) (sz (l.headD 0))
end Go.Proofs.Ytjbjmoghloabpaa
set_option linter.unusedVariables false
set_option linter.unusedSimpArgs false
namespace Go.Proofs.Ytjbjmoghloabpaa
open Go.RowKit Go.Proofs

theorem bothTo_eq (x y k : Nat) : bothTo x y k = (List.range k).countP fun i => hasB x i && hasB y i := by
  induction k with
  | zero => rfl
  | succ k ih =>
    rw [List.range_succ, List.countP_append, List.countP_singleton, ← ih, bothTo]
    cases (hasB x k && hasB y k) <;> rfl
theorem right_eq {b : Bn} (hv : valid b = true) (k w : Nat) (hk : k < (knOf b).length) : rightB b k w = rightK (hasB w) (knOf b)[k] := by
  have hlen := knOf_len b
  unfold rightB
  by_cases h : k < b.gs.length
  · rw [dif_pos h]
    have : (knOf b)[k] = gkn b.gs[k] := by
      simp only [knOf]; rw [List.getElem_append_left (by simpa using h)]; simp
    rw [this]
    simp only [gkn, rightK, cntG]
    rw [bothTo_eq]
  · have h2 : k - b.gs.length < b.ps.length := by omega
    rw [dif_neg h, dif_pos h2]
    have : (knOf b)[k] = pkn b.ps[k - b.gs.length] := by
      simp only [knOf]; rw [List.getElem_append_right (by simpa using h)]; simp
    rw [this]
    simp only [pkn, rightK]
theorem okTo_eq {b : Bn} (hv : valid b = true) (set w : Nat) : ∀ k, k ≤ (knOf b).length → okTo b set w k = (inB (sz w : Nat) b.lo b.hi && (selTo (knOf b) set k).all (rightK (hasB w)))
  | 0, _ => by simp [okTo, selTo]
  | k + 1, h => by
    rw [okTo, okTo_eq hv set w k (by omega), selTo_succ _ _ _ (by omega), List.all_append, right_eq hv k w (by omega)]
    cases hasB set k <;> simp [Bool.and_assoc]
theorem selTo_sub (ks : List Kn) (set : Nat) : ∀ k, k ≤ ks.length → (selTo ks set k).Sublist (ks.take k)
  | 0, _ => by simp [selTo]
  | k + 1, h => by
    rw [selTo_succ _ _ _ (by omega), List.take_succ_eq_append_getElem (by omega)]
    refine (selTo_sub ks set k (by omega)).append ?_
    split
    · exact List.Sublist.refl _
    · exact List.nil_sublist _
theorem knOf_in {b : Bn} (hv : valid b = true) : ∀ x ∈ knOf b, knIn b.V.toNat x := by
  intro x hx
  simp only [knOf, List.mem_append, List.mem_map] at hx
  rcases hx with ⟨g, hg, rfl⟩ | ⟨p, hp, rfl⟩
  · obtain ⟨i, hi, rfl⟩ := List.getElem_of_mem hg
    have := valid_g hv hi
    show _ < 256
    omega
  · obtain ⟨i, hi, rfl⟩ := List.getElem_of_mem hp
    have := valid_p hv hi
    exact ⟨by omega, by omega⟩
theorem knOf_gr (b : Bn) : ((knOf b).filterMap grOfK).length = b.gs.length := by
  have h1 : ∀ l : List (Int × Int × Int), ((l.map gkn).filterMap grOfK).length = l.length := by
    intro l; induction l with
    | nil => rfl
    | cons g l ih => simp [gkn, grOfK]
  have h2 : ∀ l : List (Int × Int × Bool), ((l.map pkn).filterMap grOfK).length = 0 := by
    intro l; induction l with
    | nil => rfl
    | cons g l ih => rw [List.map_cons, List.filterMap_cons]; exact ih
  unfold knOf
  rw [List.filterMap_append, List.length_append, h1, h2]; rfl
theorem counts_sel {b : Bn} (hv : valid b = true) (ws : List Kn) (hw : ∀ x ∈ ws, knIn b.V.toNat x) (hwl : ws.length ≤ 2) (set n : Nat) :
    countN b.V.toNat b.lo b.hi (sel (knOf b) set ws) n = (truthsL b set).countP fun w => ws.all (rightK (hasB w)) && (sz w == n) := by
  have hV := valid_V hv
  have hsub := selTo_sub (knOf b) set (knOf b).length (Nat.le_refl _)
  rw [List.take_length] at hsub
  rw [countN_eq (by omega)]
  · unfold truthsL
    rw [List.countP_filter]
    apply List.countP_congr
    intro w _
    unfold okB sel
    have e : b.kn = (knOf b).length := (knOf_len b).symm
    rw [e, okTo_eq hv set w _ (Nat.le_refl _), List.all_append]
    generalize inB (sz w : Nat) b.lo b.hi = x
    generalize List.all (selTo (knOf b) set (knOf b).length) (rightK (hasB w)) = y
    generalize ws.all (rightK (hasB w)) = z
    cases x <;> cases y <;> cases z <;> simp
  · intro x hx
    rcases List.mem_append.1 hx with hx | hx
    · exact knOf_in hv x (hsub.subset hx)
    · exact hw x hx
  · unfold sel
    rw [List.filterMap_append, List.length_append]
    have h1 := (hsub.filterMap grOfK).length_le
    rw [knOf_gr] at h1
    have h2 := List.length_filterMap_le grOfK ws
    have h3 := (valid_len hv).1
    omega
theorem sz_le {w : Nat} (h : w < 256) : sz w ≤ 8 := by
  rw [sz_eq w h]; have := List.countP_le_length (p := hasB w) (l := List.range 8); simpa using this
theorem csum_count (l : List Nat) (q : Nat → Bool) (hl : ∀ w ∈ l, sz w ≤ 8) : csum (fun n => l.countP fun w => q w && (sz w == n)) = l.countP q := by
  induction l with
  | nil => rfl
  | cons w l ih =>
    have ih := ih fun x hx => hl x (List.mem_cons_of_mem _ hx)
    have h8 := hl w (List.mem_cons_self ..)
    unfold csum at *
    simp only [List.countP_cons]
    rw [← ih]
    cases hq : q w
    · simp
    · rcases (show sz w = 0 ∨ sz w = 1 ∨ sz w = 2 ∨ sz w = 3 ∨ sz w = 4 ∨ sz w = 5 ∨ sz w = 6 ∨ sz w = 7 ∨ sz w = 8 by omega) with h | h | h | h | h | h | h | h | h <;> rw [h] <;> simp <;> omega
theorem truthsL_lt {b : Bn} (hv : valid b = true) {set w : Nat} (h : w ∈ truthsL b set) : w < 256 := by
  have hV := valid_V hv
  simp only [truthsL, List.mem_filter, List.mem_range] at h
  have h8 : (2 : Nat) ^ b.V.toNat ≤ 2 ^ 8 := Nat.pow_le_pow_right (by omega) (by omega)
  omega
theorem csum_sel {b : Bn} (hv : valid b = true) (ws : List Kn) (hw : ∀ x ∈ ws, knIn b.V.toNat x) (hwl : ws.length ≤ 2) (set : Nat) :
    csum (countN b.V.toNat b.lo b.hi (sel (knOf b) set ws)) = (truthsL b set).countP fun w => ws.all (rightK (hasB w)) := by
  rw [← csum_count (truthsL b set) _ fun w h => sz_le (truthsL_lt hv h)]
  congr 1
  funext n
  exact counts_sel hv ws hw hwl set n
theorem sel_all (b : Bn) (ws : List Kn) : sel (knOf b) (2 ^ b.kn - 1) ws = knOf b ++ ws := by
  have : b.kn = (knOf b).length := (knOf_len b).symm
  rw [this, sel_full]
/-- How many truths there are. -/
theorem csum_set {b : Bn} (hv : valid b = true) (set : Nat) : csum (countN b.V.toNat b.lo b.hi (sel (knOf b) set [])) = (truthsL b set).length := by
  rw [csum_sel hv [] (by simp) (by simp)]
  simp
theorem csum_TL {b : Bn} (hv : valid b = true) : csum (countN b.V.toNat b.lo b.hi (knOf b)) = (TL b).length := by
  have := csum_set hv (2 ^ b.kn - 1)
  rwa [sel_all, List.append_nil] at this
theorem countN_TL {b : Bn} (hv : valid b = true) (n : Nat) : countN b.V.toNat b.lo b.hi (knOf b) n = (TL b).countP fun w => sz w == n := by
  have := counts_sel hv [] (by simp) (by simp) (2 ^ b.kn - 1) n
  rw [sel_all, List.append_nil] at this
  rw [this]; simp; rfl
theorem bit_pow : ∀ i, i < 8 → ∀ j, j < 8 → hasB (2 ^ i) j = (j == i) := by decide
theorem right_one (c : Nat → Bool) (i : Nat) (h : i < 8) : rightK c (.g (2 ^ i) 1 1) = c i := by
  have hb := bit_pow i h
  simp only [rightK, cntG]
  have : ((List.range 8).countP fun j => hasB (2 ^ i) j && c j) = (c i).toNat := by
    have e : ((List.range 8).countP fun j => hasB (2 ^ i) j && c j) = (List.range 8).countP fun j => (j == i) && c j := by
      apply List.countP_congr
      intro j hj
      rw [hb j (List.mem_range.1 hj)]
    rw [e]
    rcases (show i = 0 ∨ i = 1 ∨ i = 2 ∨ i = 3 ∨ i = 4 ∨ i = 5 ∨ i = 6 ∨ i = 7 by omega) with rfl | rfl | rfl | rfl | rfl | rfl | rfl | rfl <;> simp [List.range_succ, List.countP_cons] <;> cases c _ <;> rfl
  rw [this]
  cases c i <;> rfl
theorem knIn_one {V i : Nat} (h : i < 8) : knIn V (.g (2 ^ i) 1 1) := by
  show 2 ^ i < 256
  have := Nat.pow_le_pow_right (show 0 < 2 by omega) (show i ≤ 7 by omega)
  have e : (2 : Nat) ^ 7 = 128 := rfl
  omega
/-- In how many truths a voter gave a white bean. -/
theorem csum_one {b : Bn} (hv : valid b = true) (i : Nat) (h : i < 8) : csum (cOne b.V.toNat b.lo b.hi (knOf b) i) = cntH (TL b) i := by
  have := csum_sel hv [.g (2 ^ i) 1 1] (by intro x hx; simp only [List.mem_singleton] at hx; subst hx; exact knIn_one h) (by simp) (2 ^ b.kn - 1)
  rw [sel_all] at this
  unfold cOne cntH TL
  rw [this]
  apply List.countP_congr
  intro w _
  simp only [List.all_cons, List.all_nil, Bool.and_true]
  rw [right_one _ _ h]
theorem one_with {b : Bn} (hv : valid b = true) (i n : Nat) (h : i < 8) : cOne b.V.toNat b.lo b.hi (knOf b) i n = cntH (withL (TL b) n) i := by
  have := counts_sel hv [.g (2 ^ i) 1 1] (by intro x hx; simp only [List.mem_singleton] at hx; subst hx; exact knIn_one h) (by simp) (2 ^ b.kn - 1) n
  rw [sel_all] at this
  unfold cOne cntH withL TL
  rw [this, List.countP_filter]
  apply List.countP_congr
  intro w _
  simp only [List.all_cons, List.all_nil, Bool.and_true]
  rw [right_one _ _ h]
  simp only [Bool.and_eq_true, beq_iff_eq, decide_eq_true_eq]
  constructor <;> (intro h; exact ⟨by first | exact h.1 | exact h.2, by have := h.1; have := h.2; omega⟩)
theorem with_len {b : Bn} (hv : valid b = true) (n : Nat) : countN b.V.toNat b.lo b.hi (knOf b) n = (withL (TL b) n).length := by
  rw [countN_TL hv, withL, ← List.countP_eq_length_filter]
  apply List.countP_congr
  intro w _
  simp only [beq_iff_eq, decide_eq_true_eq]
  omega
theorem csum_same {b : Bn} (hv : valid b = true) (i j : Nat) (hi : i < b.V.toNat) (hj : j < b.V.toNat) : csum (countN b.V.toNat b.lo b.hi (knOf b ++ [.p i j true])) = sameN (TL b) i j := by
  have := csum_sel hv [.p i j true] (by intro x hx; simp only [List.mem_singleton] at hx; subst hx; exact ⟨hi, hj⟩) (by simp) (2 ^ b.kn - 1)
  rw [sel_all] at this
  rw [this]
  unfold sameN TL
  apply List.countP_congr
  intro w _
  simp [rightK]
/-- Whose beans are known. -/
theorem sure_mask (m : (Nat → Nat) → Nat) (V : Nat) (lo hi : Int) (ks : List Kn) (l : List Nat) (hl : m (countN V lo hi ks) = l.length) (h : ∀ i, i < V → m (cOne V lo hi ks i) = cntH l i) (hp : 0 < l.length) :
    ∀ k, k ≤ V → sureTo m V lo hi ks k = (whiteM l k, blackM l k)
  | 0, _ => rfl
  | k + 1, hk => by
    rw [sureTo, sure_mask m V lo hi ks l hl h hp k (by omega), h k (by omega), hl]
    simp only [whiteM, blackM, maskTo]
    by_cases h1 : cntH l k = l.length
    · rw [if_pos h1]
      have h2 : (cntH l k == l.length) = true := by simpa using h1
      have h3 : (cntH l k == 0) = false := by simp; omega
      simp only [h2, h3, if_true, if_false, Bool.false_eq_true, Nat.add_zero]
    · rw [if_neg h1]
      have h2 : (cntH l k == l.length) = false := by simpa using h1
      simp only [h2, Bool.false_eq_true, if_false, Nat.add_zero]
      by_cases h0 : cntH l k = 0
      · rw [if_pos h0]
        have h3 : (cntH l k == 0) = true := by simpa using h0
        simp only [h3, if_true, if_false, Bool.false_eq_true, Nat.add_zero]
      · rw [if_neg h0]
        have h3 : (cntH l k == 0) = false := by simpa using h0
        simp only [h3, if_true, if_false, Bool.false_eq_true, Nat.add_zero]
theorem sure_all {b : Bn} (hv : valid b = true) (hp : 0 < (TL b).length) : sureTo csum b.V.toNat b.lo b.hi (knOf b) b.V.toNat = (whiteM (TL b) b.V.toNat, blackM (TL b) b.V.toNat) :=
  sure_mask csum _ _ _ _ (TL b) (csum_TL hv) (fun i hi => csum_one hv i (by have := valid_V hv; omega)) hp _ (Nat.le_refl _)
theorem sure_at {b : Bn} (hv : valid b = true) (n : Nat) (hp : 0 < (withL (TL b) n).length) : sureTo (atN n) b.V.toNat b.lo b.hi (knOf b) b.V.toNat = (whiteM (withL (TL b) n) b.V.toNat, blackM (withL (TL b) n) b.V.toNat) :=
  sure_mask (atN n) _ _ _ _ (withL (TL b) n) (with_len hv n) (fun i hi => one_with hv i n (by have := valid_V hv; omega)) hp _ (Nat.le_refl _)
end Go.Proofs.Ytjbjmoghloabpaa
