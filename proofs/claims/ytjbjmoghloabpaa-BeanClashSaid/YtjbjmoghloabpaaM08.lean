/- Parts of a proof: BnG, BnPl. -/
import Derived.Test.YtjbjmoghloabpaaM07
import Derived.Test.YtjbjmoghloabpaaM04
/- What counts is to return, in plain words. -/
set_option linter.unusedVariables false
set_option linter.unusedSimpArgs false
namespace Go.Proofs.Ytjbjmoghloabpaa
open Go.RowKit Go.Proofs

/-- One thing that is known: a group, or a pair. -/
inductive Kn where
  | g (vo : Nat) (lo hi : Int)
  | p (a b : Nat) (s : Bool)
def knV : Kn → Value
  | .g vo lo hi => gv vo lo hi
  | .p a b s => pv a b s
def KnAt (w : World) (ka : Option Addr) (ks : List Kn) : Prop := ∀ i, (h : i < ks.length) → ∃ b o, ka = some ⟨b, o, none⟩ ∧ w.cell? ⟨b, o + i, none⟩ = some (knV ks[i])
theorem KnAt.below {w w' : World} {ka : Option Addr} {ks : List Kn} (h : KnAt w ka ks) (hb : Below w.heap.size w w') : KnAt w' ka ks := fun i hi =>
  let ⟨b, o, h0, h1⟩ := h i hi
  ⟨b, o, h0, cell_later hb h1⟩
/-- Its voters are voters. -/
def knOk : Kn → Prop
  | .g vo _ _ => vo < 256
  | .p a b _ => a < 8 ∧ b < 8
/-- What is left when some of it has been looked at: ties and groups; none: it cannot be. -/
def kstep (x : Option (Ti × List Gr)) (k : Kn) : Option (Ti × List Gr) :=
  match x, k with
  | none, _ => none
  | some (t, gs), .g vo lo hi => some (t, gs ++ [(vo, lo, hi)])
  | some (t, gs), .p a b s => if tiedOk t a b s then some (tiedT t a b s, gs) else none
def kfold (L : List Kn) (g0 : Gr) : Option (Ti × List Gr) := L.foldl kstep (some (freeT, [g0]))
/-- What of a set is known, and what is wished. -/
def selTo (ks : List Kn) (set : Nat) (k : Nat) : List Kn := (List.range k).flatMap fun i => match ks[i]? with | some x => if hasB set i then [x] else [] | none => []
def sel (ks : List Kn) (set : Nat) (ws : List Kn) : List Kn := selTo ks set ks.length ++ ws

/-- The seven numbers of a state. -/
def x7 (s : St) : SL := [s 0, s 1, s 2, s 3, s 4, s 5, s 6]
def f7 (x : SL) : St := fun i => x.getD i 0
theorem f7_x7 (s : St) (i : Nat) (h : i < 7) : f7 (x7 s) i = s i := by
  rcases (show i = 0 ∨ i = 1 ∨ i = 2 ∨ i = 3 ∨ i = 4 ∨ i = 5 ∨ i = 6 by omega) with rfl | rfl | rfl | rfl | rfl | rfl | rfl <;> rfl
theorem x7_f7 (x : SL) (h : x.length = 7) : x7 (f7 x) = x := by
  match x, h with
  | [a, b, c, d, e, f, g], _ => rfl
theorem lcells_x7 (s : St) : lcells (x7 s) = scells s := rfl
theorem scells_f7 (x : SL) (h : x.length = 7) : scells (f7 x) = lcells x := by rw [← lcells_x7, x7_f7 x h]
/-- A state, when the voters before k that chose with 'first' have been reckoned in. -/
def chooseTo (gs : List Gr) (t : Ti) (first : Nat) (white : Bool) (s : St) : Nat → St
  | 0 => s
  | k + 1 => if (t k).1 = first ∧ (t k).2 = white then withS gs (chooseTo gs t first white s k) k else chooseTo gs t first white s k
def chooseX (gs : List Gr) (t : Ti) (V first : Nat) (white : Bool) (x : SL) : SL := x7 (chooseTo gs t first white (f7 x) V)
/-- All states, when the voters before k have chosen. -/
def statesTo (gs : List Gr) (t : Ti) (V : Nat) : Nat → List SL
  | 0 => [[0, 0, 0, 0, 0, 0, 0]]
  | k + 1 => if (t k).1 = k then (statesTo gs t V k).flatMap fun x => [chooseX gs t V k false x, chooseX gs t V k true x] else statesTo gs t V k
def outN (gs : List Gr) (S : List SL) (n : Nat) : Nat := S.countP fun x => fitsB gs (f7 x) && f7 x 0 == n
/-- What counts returns. -/
def countN (V : Nat) (lo hi : Int) (L : List Kn) (n : Nat) : Nat :=
  match kfold L (2 ^ V - 1, lo, hi) with
  | none => 0
  | some (t, gs) => outN gs (statesTo gs t V V) n

/-! Numbers stay small. -/
theorem withTo_le (gs : List Gr) (s : St) (v k i : Nat) : withTo gs s v k i ≤ s i + 1 := by unfold withTo; split <;> omega
theorem chooseTo_le (gs : List Gr) (t : Ti) (first : Nat) (white : Bool) (s : St) (k i : Nat) : chooseTo gs t first white s k i ≤ s i + k := by
  induction k with
  | zero => simp [chooseTo]
  | succ k ih =>
    simp only [chooseTo]
    split
    · have := withTo_le gs (chooseTo gs t first white s k) k gs.length i
      show withTo _ _ _ _ _ ≤ _
      omega
    · omega
end Go.Proofs.Ytjbjmoghloabpaa
/- The plain law of counts: it returns how many truths there are. -/
set_option linter.unusedVariables false
set_option linter.unusedSimpArgs false
namespace Go.Proofs.Ytjbjmoghloabpaa
open Go.RowKit Go.Proofs

/-! Colours of all voters; ties. -/
def Sat (t : Ti) (c : Nat → Bool) : Prop := ∀ i, i < 8 → c i = (c (t i).1 == (t i).2)
structure TInv (V : Nat) (t : Ti) : Prop where
  le : ∀ i, i < 8 → (t i).1 ≤ i
  rep : ∀ i, i < 8 → t (t i).1 = ((t i).1, true)
  far : ∀ i, V ≤ i → i < 8 → t i = (i, true)
theorem TInv.free (V : Nat) : TInv V freeT := ⟨fun i _ => Nat.le_refl i, fun i _ => rfl, fun i _ _ => rfl⟩
theorem Sat.free (c : Nat → Bool) : Sat freeT c := fun i _ => by simp [freeT]
theorem TInv.lt {V : Nat} {t : Ti} (h : TInv V t) {i : Nat} (hi : i < 8) (hv : i < V) : (t i).1 < V := by have := h.le i hi; omega
theorem TInv.tied {V : Nat} {t : Ti} (h : TInv V t) {A B : Nat} (hA : A < 8) (hB : B < 8) (hAV : A < V) (hBV : B < V) (s : Bool) : TInv V (tiedT t A B s) := by
  unfold tiedT
  split
  · exact h
  · rename_i hne
    have h1 := h.le A hA
    have h2 := h.le B hB
    have h3 := h.rep A hA
    have h4 := h.rep B hB
    have hm : toT t A B < frT t A B := by unfold toT frT; omega
    have hto : t (toT t A B) = (toT t A B, true) := by
      unfold toT; rcases Nat.le_total (t A).1 (t B).1 with q | q
      · rw [Nat.min_eq_left q]; exact h3
      · rw [Nat.min_eq_right q]; exact h4
    have hf8 : frT t A B < 8 := by unfold frT; omega
    have hfV : frT t A B < V := by unfold frT; omega
    generalize frT t A B = fr at *
    generalize toT t A B = too at *
    generalize sameT t A B s = sm at *
    have hval : ∀ i, i < 8 → mergeTo t fr too sm 8 i = if (t i).1 = fr then (too, (t i).2 == sm) else t i := fun i hi => by simp [mergeTo, hi]
    have hi1 := h.le
    refine ⟨fun i hi => ?_, fun i hi => ?_, fun i hv hi => ?_⟩
    · rw [hval i hi]
      have := h.le i hi
      split
      · simp only; omega
      · exact this
    · rw [hval i hi]
      split
      · rename_i hr
        simp only
        rw [hval too (by omega), hto]
        simp only
        rw [if_neg (by omega)]
      · rename_i hr
        have := h.rep i hi
        have h8 := h.le i hi
        rw [hval _ (by omega), this]
        simp only
        rw [if_neg hr]
    · rw [hval i hi, h.far i hv hi]
      simp only
      rw [if_neg (by omega)]
theorem tied_sat {V : Nat} {t : Ti} (h : TInv V t) {A B : Nat} (hA : A < 8) (hB : B < 8) (s : Bool) (c : Nat → Bool) :
    (Sat t c ∧ ((c A == c B) == s) = true) ↔ (tiedOk t A B s = true ∧ Sat (tiedT t A B s) c) := by
  unfold tiedT tiedOk
  split
  · rename_i he
    have : Sat t c → (((c A == c B) == s) = sameT t A B s) := by
      intro hs
      have a1 := hs A hA
      have b1 := hs B hB
      rw [he] at a1
      unfold sameT
      rw [a1, b1]
      generalize c (t B).1 = x
      generalize (t A).2 = y
      generalize (t B).2 = z
      cases x <;> cases y <;> cases z <;> cases s <;> rfl
    constructor
    · intro ⟨h1, h2⟩; exact ⟨(this h1).symm.trans h2, h1⟩
    · intro ⟨h1, h2⟩; exact ⟨h2, (this h2).trans h1⟩
  · rename_i hne
    have h1 := h.le A hA
    have h2 := h.le B hB
    have h3 := h.rep A hA
    have h4 := h.rep B hB
    have key : Sat t c → ((((c A == c B) == s) = true) ↔ c (frT t A B) = (c (toT t A B) == sameT t A B s)) := by
      intro hs
      have a1 := hs A hA
      have b1 := hs B hB
      unfold sameT frT toT
      rw [a1, b1]
      rcases Nat.le_total (t A).1 (t B).1 with q | q
      · rw [Nat.min_eq_left q, Nat.max_eq_right q]
        generalize c (t B).1 = x
        generalize c (t A).1 = x'
        generalize (t A).2 = y
        generalize (t B).2 = z
        cases x <;> cases x' <;> cases y <;> cases z <;> cases s <;> decide
      · rw [Nat.min_eq_right q, Nat.max_eq_left q]
        generalize c (t B).1 = x
        generalize c (t A).1 = x'
        generalize (t A).2 = y
        generalize (t B).2 = z
        cases x <;> cases x' <;> cases y <;> cases z <;> cases s <;> decide
    have hm : toT t A B < frT t A B := by unfold toT frT; omega
    have hfr : t (frT t A B) = (frT t A B, true) := by
      unfold frT; rcases Nat.le_total (t A).1 (t B).1 with q | q
      · rw [Nat.max_eq_right q]; exact h4
      · rw [Nat.max_eq_left q]; exact h3
    have hf8 : frT t A B < 8 := by unfold frT; omega
    generalize frT t A B = fr at *
    generalize toT t A B = too at *
    generalize sameT t A B s = sm at *
    have hval : ∀ i, i < 8 → mergeTo t fr too sm 8 i = if (t i).1 = fr then (too, (t i).2 == sm) else t i := fun i hi => by simp [mergeTo, hi]
    constructor
    · intro ⟨hs, hp⟩
      have hk := (key hs).1 hp
      refine ⟨rfl, fun i hi => ?_⟩
      rw [hval i hi]
      split
      · rename_i hr
        rw [hs i hi, hr, hk]
        simp only
        generalize c too = x
        generalize (t i).2 = y
        cases x <;> cases y <;> cases sm <;> rfl
      · exact hs i hi
    · intro ⟨_, hs⟩
      have hk : c fr = (c too == sm) := by
        have := hs fr hf8
        rw [hval fr hf8, hfr] at this
        simpa using this
      have hs2 : Sat t c := by
        intro i hi
        by_cases hr : (t i).1 = fr
        · have := hs i hi
          rw [hval i hi, if_pos hr] at this
          rw [this, hr, hk]
          simp only
          generalize c too = x
          generalize (t i).2 = y
          cases x <;> cases y <;> cases sm <;> rfl
        · have := hs i hi
          rwa [hval i hi, if_neg hr] at this
      exact ⟨hs2, (key hs2).2 hk⟩

/-- How many of a group gave white beans. -/
def cntG (vo : Nat) (c : Nat → Bool) : Nat := (List.range 8).countP fun i => hasB vo i && c i
/-- Is one thing right? -/
def rightK (c : Nat → Bool) : Kn → Bool
  | .g vo lo hi => inB (cntG vo c : Nat) lo hi
  | .p a b s => (c a == c b) == s
def pairR (c : Nat → Bool) : Kn → Bool
  | .g .. => true
  | .p a b s => (c a == c b) == s
def grOfK : Kn → Option Gr
  | .g vo lo hi => some (vo, lo, hi)
  | .p .. => none
def grR (c : Nat → Bool) (g : Gr) : Bool := inB (cntG g.1 c : Nat) g.2.1 g.2.2
def knIn (V : Nat) : Kn → Prop
  | .g vo _ _ => vo < 256
  | .p a b _ => a < V ∧ b < V
theorem right_split (c : Nat → Bool) (L : List Kn) : L.all (rightK c) = (L.all (pairR c) && (L.filterMap grOfK).all (grR c)) := by
  induction L with
  | nil => rfl
  | cons x L ih =>
    rw [List.all_cons, List.all_cons, ih]
    cases x with
    | g vo lo hi => simp [rightK, pairR, grOfK, grR]; generalize inB _ _ _ = y; generalize L.all (pairR c) = z; cases y <;> cases z <;> simp
    | p a b s => simp [rightK, pairR, grOfK, Bool.and_assoc]
theorem kstep_none (L : List Kn) : L.foldl kstep none = none := by induction L with | nil => rfl | cons x L ih => simp [kstep, ih]
/-- What is left: the ties, and the groups. -/
theorem kfold_sat (V : Nat) (hV : V ≤ 8) : ∀ (L : List Kn) (_ : ∀ x ∈ L, knIn V x) (t : Ti) (gs : List Gr) (_ : TInv V t),
    match L.foldl kstep (some (t, gs)) with
    | none => ∀ c, ¬ (Sat t c ∧ L.all (pairR c) = true)
    | some (t', gs') => TInv V t' ∧ gs' = gs ++ L.filterMap grOfK ∧ ∀ c, (Sat t c ∧ L.all (pairR c) = true) ↔ Sat t' c
  | [], _, t, gs, ht => ⟨ht, by simp, fun c => by simp⟩
  | x :: L, hok, t, gs, ht => by
    have hL : ∀ y ∈ L, knIn V y := fun y hy => hok y (List.mem_cons_of_mem _ hy)
    have hx := hok x (List.mem_cons_self ..)
    rw [List.foldl_cons]
    cases x with
    | g vo lo hi =>
      have ih := kfold_sat V hV L hL t (gs ++ [(vo, lo, hi)]) ht
      simp only [kstep]
      generalize List.foldl kstep (some (t, gs ++ [(vo, lo, hi)])) L = r at *
      cases r with
      | none => intro c ⟨h1, h2⟩; exact ih c ⟨h1, by simpa [pairR] using h2⟩
      | some p =>
        obtain ⟨h1, h2, h3⟩ := ih
        exact ⟨h1, by rw [h2]; simp [grOfK], fun c => by rw [← h3 c]; simp [pairR]⟩
    | p a b s =>
      have ha : a < 8 := Nat.lt_of_lt_of_le hx.1 hV
      have hb : b < 8 := Nat.lt_of_lt_of_le hx.2 hV
      have hts := tied_sat ht ha hb s
      simp only [kstep]
      by_cases hk : tiedOk t a b s = true
      · rw [if_pos hk]
        have ih := kfold_sat V hV L hL (tiedT t a b s) gs (ht.tied ha hb hx.1 hx.2 s)
        have e : ∀ c, (Sat t c ∧ (List.all (.p a b s :: L) (pairR c)) = true) ↔ (Sat (tiedT t a b s) c ∧ L.all (pairR c) = true) := by
          intro c
          have := hts c
          rw [List.all_cons, Bool.and_eq_true]
          simp only [pairR]
          constructor
          · intro ⟨h1, h2, h3⟩; exact ⟨(this.1 ⟨h1, h2⟩).2, h3⟩
          · intro ⟨h1, h3⟩; have := this.2 ⟨hk, h1⟩; exact ⟨this.1, this.2, h3⟩
        generalize List.foldl kstep (some (tiedT t a b s, gs)) L = r at *
        cases r with
        | none => intro c h; exact ih c ((e c).1 h)
        | some p =>
          obtain ⟨h1, h2, h3⟩ := ih
          exact ⟨h1, by rw [h2, List.filterMap_cons]; rfl, fun c => (e c).trans (h3 c)⟩
      · rw [if_neg hk, kstep_none]
        intro c ⟨h1, h2⟩
        rw [List.all_cons, Bool.and_eq_true] at h2
        exact hk ((hts c).1 ⟨h1, h2.1⟩).1

/-! All colours of V voters. -/
def bitsL (V w : Nat) : List Bool := (List.range V).map (hasB w)
def allC (V : Nat) : List (List Bool) := (List.range (2 ^ V)).map (bitsL V)
theorem hasB_zero (w : Nat) : hasB w 0 = (w % 2 == 1) := by simp [hasB]
theorem hasB_succ (w i : Nat) : hasB w (i + 1) = hasB (w / 2) i := by
  unfold hasB; rw [Nat.pow_succ, Nat.mul_comm, ← Nat.div_div_eq_div_mul]
theorem bitsL_succ (V w : Nat) : bitsL (V + 1) w = hasB w 0 :: bitsL V (w / 2) := by
  unfold bitsL
  rw [List.range_succ_eq_map, List.map_cons, List.map_map]
  congr 1
  apply List.map_congr_left
  intro i _
  exact hasB_succ w i
theorem bitsL_inj : ∀ (V x y : Nat), x < 2 ^ V → y < 2 ^ V → bitsL V x = bitsL V y → x = y
  | 0, x, y, hx, hy, _ => by simp at hx hy; omega
  | V + 1, x, y, hx, hy, h => by
    rw [bitsL_succ, bitsL_succ, List.cons.injEq, hasB_zero, hasB_zero] at h
    rw [Nat.pow_succ] at hx hy
    have ih := bitsL_inj V (x / 2) (y / 2) (by omega) (by omega) h.2
    have h1 : x % 2 = y % 2 := by
      have := h.1
      rw [Bool.eq_iff_iff, beq_iff_eq, beq_iff_eq] at this
      omega
    omega
theorem bitsL_sur : ∀ (V : Nat) (l : List Bool), l.length = V → ∃ w, w < 2 ^ V ∧ bitsL V w = l
  | 0, [], _ => ⟨0, by simp, rfl⟩
  | V + 1, b :: l, h => by
    obtain ⟨w, hw, rfl⟩ := bitsL_sur V l (by simpa using h)
    refine ⟨b.toNat + 2 * w, ?_, ?_⟩
    · rw [Nat.pow_succ]; have := Bool.toNat_le b; omega
    · rw [bitsL_succ, hasB_zero]
      have h1 : (b.toNat + 2 * w) / 2 = w := by have := Bool.toNat_le b; cases b <;> simp <;> omega
      have h2 : (b.toNat + 2 * w) % 2 = b.toNat := by cases b <;> simp <;> omega
      rw [h1, h2]
      cases b <;> rfl
theorem bitsL_len (V w : Nat) : (bitsL V w).length = V := by simp [bitsL]
theorem bitsL_get (V w i : Nat) (h : i < V) : (bitsL V w).getD i false = hasB w i := by simp [bitsL, List.getD, h]
theorem allC_nodup (V : Nat) : (allC V).Nodup := by
  unfold allC List.Nodup
  rw [List.pairwise_map]
  have h := List.nodup_range (n := 2 ^ V)
  refine List.Pairwise.imp_of_mem ?_ h
  intro a b ha hb hne he
  exact hne (bitsL_inj V a b (List.mem_range.1 ha) (List.mem_range.1 hb) he)
theorem mem_allC (V : Nat) (l : List Bool) : l ∈ allC V ↔ l.length = V := by
  unfold allC
  rw [List.mem_map]
  constructor
  · rintro ⟨w, _, rfl⟩; exact bitsL_len V w
  · intro h; obtain ⟨w, hw, e⟩ := bitsL_sur V l h; exact ⟨w, List.mem_range.2 hw, e⟩

/-! States, by colours. -/
def condK (t : Ti) (V k : Nat) (l : List Bool) : Bool := decide (∀ i, i < V → l.getD i false = if (t i).1 < k then (l.getD (t i).1 false == (t i).2) else false)
def updK (t : Ti) (V k : Nat) (b : Bool) (l : List Bool) : List Bool := (List.range V).map fun i => if (t i).1 = k then (b == (t i).2) else l.getD i false
def stL (gs : List Gr) (V : Nat) (l : List Bool) : St := fun j => (List.range V).countP fun i => l.getD i false && inG gs i j
theorem updK_get (t : Ti) (V k : Nat) (b : Bool) (l : List Bool) (i : Nat) (h : i < V) : (updK t V k b l).getD i false = if (t i).1 = k then (b == (t i).2) else l.getD i false := by
  simp [updK, List.getD, h]
theorem ext_getD {l m : List Bool} (h : l.length = m.length) (hg : ∀ i, i < l.length → l.getD i false = m.getD i false) : l = m := by
  apply List.ext_getElem h
  intro i h1 h2
  have := hg i h1
  simpa [List.getD, h1, h2] using this
theorem choose_eq (gs : List Gr) (t : Ti) (V k : Nat) (b : Bool) (l : List Bool) (hl : ∀ i, i < V → (t i).1 = k → l.getD i false = false) (s : St) (hs : ∀ j, j < 7 → s j = stL gs V l j) (hgl : gs.length ≤ 7) :
    ∀ j, j < 7 → chooseTo gs t k b s V j = stL gs V (updK t V k b l) j := by
  have key : ∀ n, n ≤ V → ∀ j, j < 7 → chooseTo gs t k b s n j + (List.range n).countP (fun i => l.getD i false && inG gs i j) = s j + (List.range n).countP (fun i => (updK t V k b l).getD i false && inG gs i j) := by
    intro n
    induction n with
    | zero => intro _ j _; simp [chooseTo]
    | succ n ih =>
      intro hn j hj
      have ih := ih (by omega) j hj
      rw [List.range_succ, List.countP_append, List.countP_append, List.countP_singleton, List.countP_singleton, updK_get t V k b l n (by omega)]
      simp only [chooseTo]
      by_cases hr : (t n).1 = k
      · have h0 := hl n (by omega) hr
        rw [if_pos hr, h0]
        by_cases hb : (t n).2 = b
        · rw [if_pos ⟨hr, hb⟩, hb]
          simp only [withS, withTo, Bool.false_and, Bool.false_eq_true, if_false, beq_self_eq_true, Bool.true_and]
          by_cases hg : j < gs.length ∧ inG gs n j = true
          · rw [if_pos hg, if_pos hg.2]; omega
          · rw [if_neg hg]
            have : inG gs n j = false := by
              by_cases h1 : j < gs.length
              · simpa [h1] using hg
              · unfold inG; rw [List.getElem?_eq_none (by omega)]
            simp only [this, Bool.and_false, Bool.false_eq_true, if_false]; omega
        · rw [if_neg (fun h => hb h.2)]
          have : (b == (t n).2) = false := by simpa using fun h => hb h.symm
          simp only [this, Bool.false_and, Bool.and_false, Bool.false_eq_true, if_false]; omega
      · rw [if_neg (fun h => hr h.1), if_neg hr]; omega
  intro j hj
  have := key V (Nat.le_refl _) j hj
  have h2 := hs j hj
  unfold stL at h2 ⊢
  omega
theorem x7_congr {s s' : St} (h : ∀ j, j < 7 → s j = s' j) : x7 s = x7 s' := by
  simp only [x7]
  rw [h 0 (by omega), h 1 (by omega), h 2 (by omega), h 3 (by omega), h 4 (by omega), h 5 (by omega), h 6 (by omega)]
theorem flatMap_perm {α β : Type} {l m : List α} (f : α → List β) (h : l.Perm m) : (l.flatMap f).Perm (m.flatMap f) := h.flatMap_right f

theorem flatMap_ext {α β : Type} {l : List α} {f g : α → List β} (h : ∀ a ∈ l, f a = g a) : l.flatMap f = l.flatMap g := by
  induction l with
  | nil => rfl
  | cons a l ih => rw [List.flatMap_cons, List.flatMap_cons, h a (List.mem_cons_self ..), ih fun b hb => h b (List.mem_cons_of_mem _ hb)]

theorem states_perm {V : Nat} (hV : V ≤ 8) {t : Ti} (ht : TInv V t) (gs : List Gr) (hgl : gs.length ≤ 7) : ∀ k, k ≤ V → (statesTo gs t V k).Perm (((allC V).filter (condK t V k)).map fun l => x7 (stL gs V l)) := by
  intro k
  induction k with
  | zero =>
    intro _
    have h1 : ((allC V).filter (condK t V 0)).Perm [List.replicate V false] := by
      refine (List.perm_ext_iff_of_nodup ((allC_nodup V).sublist List.filter_sublist) (by simp)).2 fun l => ?_
      rw [List.mem_filter, mem_allC, List.mem_singleton]
      constructor
      · intro ⟨h1, h2⟩
        simp only [condK, decide_eq_true_eq, Nat.not_lt_zero, if_false] at h2
        refine ext_getD (by simp [h1]) fun i hi => ?_
        rw [h2 i (by omega)]
        simp [List.getD, List.getElem?_replicate]; split <;> rfl
      · rintro rfl
        refine ⟨by simp, ?_⟩
        simp only [condK, decide_eq_true_eq, Nat.not_lt_zero, if_false]
        intro i hi
        simp [List.getD, List.getElem?_replicate, hi]
    refine List.Perm.trans ?_ (h1.map _).symm
    have : ∀ j, stL gs V (List.replicate V false) j = 0 := by
      intro j
      unfold stL
      rw [List.countP_eq_zero]
      intro i hi
      have : (List.replicate V false).getD i false = false := by simp [List.getD, List.getElem?_replicate]; split <;> rfl
      rw [this]; simp
    simp only [List.map_cons, List.map_nil, x7, this]
    exact List.Perm.refl _
  | succ k ih =>
    intro hk
    have ih := ih (by omega)
    simp only [statesTo]
    by_cases hr : (t k).1 = k
    · rw [if_pos hr]
      have hkk : t k = (k, true) := by have := ht.rep k (by omega); rwa [hr] at this
      refine (flatMap_perm _ ih).trans ?_
      rw [List.flatMap_map]
      have hch : ∀ l ∈ (allC V).filter (condK t V k), ∀ b, chooseX gs t V k b (x7 (stL gs V l)) = x7 (stL gs V (updK t V k b l)) := by
        intro l hl b
        rw [List.mem_filter] at hl
        have hc := hl.2
        simp only [condK, decide_eq_true_eq] at hc
        unfold chooseX
        exact x7_congr (choose_eq gs t V k b l (fun i hi he => by rw [hc i hi, if_neg (by omega)]) _ (fun j hj => f7_x7 _ j hj) hgl)
      have e1 : (((allC V).filter (condK t V k)).flatMap fun l => [chooseX gs t V k false (x7 (stL gs V l)), chooseX gs t V k true (x7 (stL gs V l))]) =
          (((allC V).filter (condK t V k)).flatMap fun l => [updK t V k false l, updK t V k true l]).map fun l => x7 (stL gs V l) := by
        rw [List.map_flatMap]
        apply flatMap_ext
        intro l hl
        simp only [List.map_cons, List.map_nil]
        rw [hch l hl, hch l hl]
      rw [e1]
      refine List.Perm.map _ ?_
      refine (List.perm_ext_iff_of_nodup ?_ ((allC_nodup V).sublist List.filter_sublist)).2 fun l => ?_
      · unfold List.Nodup
        rw [List.pairwise_flatMap]
        refine ⟨fun l hl => ?_, ?_⟩
        · simp only [List.pairwise_cons, List.mem_singleton, List.not_mem_nil, false_implies, implies_true, List.Pairwise.nil, and_true]
          rintro _ rfl he
          have := congrArg (fun l => l.getD k false) he
          (try simp only at this)
          rw [updK_get _ _ _ _ _ _ (by omega), updK_get _ _ _ _ _ _ (by omega), if_pos hr, if_pos hr, hkk] at this
          simp at this
        · refine List.Pairwise.imp_of_mem ?_ ((allC_nodup V).sublist (List.filter_sublist (p := condK t V k)))
          intro l m hl hm hne x hx y hy he
          rw [List.mem_filter, mem_allC] at hl hm
          have hcl := hl.2
          have hcm := hm.2
          simp only [condK, decide_eq_true_eq] at hcl hcm
          apply hne
          refine ext_getD (by rw [hl.1, hm.1]) fun i hi => ?_
          have hiV : i < V := by omega
          by_cases hik : (t i).1 = k
          · rw [hcl i hiV, hcm i hiV, if_neg (by omega), if_neg (by omega)]
          · have hg := congrArg (fun l => l.getD i false) he
            (try simp only at hg)
            simp only [List.mem_cons, List.not_mem_nil, or_false] at hx hy
            rcases hx with rfl | rfl <;> rcases hy with rfl | rfl <;> rwa [updK_get _ _ _ _ _ _ hiV, updK_get _ _ _ _ _ _ hiV, if_neg hik, if_neg hik] at hg
      · rw [List.mem_flatMap, List.mem_filter, mem_allC]
        have hlt : ∀ i, i < V → (t i).1 < V := fun i hi => ht.lt (by omega) hi
        constructor
        · rintro ⟨m, hm, hx⟩
          rw [List.mem_filter, mem_allC] at hm
          have hc := hm.2
          simp only [condK, decide_eq_true_eq] at hc
          have : ∃ b, l = updK t V k b m := by
            simp only [List.mem_cons, List.not_mem_nil, or_false] at hx
            rcases hx with rfl | rfl
            · exact ⟨false, rfl⟩
            · exact ⟨true, rfl⟩
          obtain ⟨b, rfl⟩ := this
          refine ⟨by simp [updK], ?_⟩
          simp only [condK, decide_eq_true_eq]
          intro i hi
          rw [updK_get _ _ _ _ _ _ hi, updK_get _ _ _ _ _ _ (hlt i hi), ht.rep i (by omega)]
          (try simp only)
          by_cases hik : (t i).1 = k
          · rw [if_pos hik, if_pos hik, if_pos (by omega)]
            cases b <;> rfl
          · rw [if_neg hik, if_neg hik, hc i hi]
            by_cases h2 : (t i).1 < k
            · rw [if_pos h2, if_pos (by omega)]
            · rw [if_neg h2, if_neg (by omega)]
        · intro ⟨h1, h2⟩
          simp only [condK, decide_eq_true_eq] at h2
          let m := (List.range V).map fun i => if (t i).1 = k then false else l.getD i false
          have hm : ∀ i, i < V → m.getD i false = if (t i).1 = k then false else l.getD i false := fun i hi => by simp [m, List.getD, hi]
          refine ⟨m, ?_, ?_⟩
          · rw [List.mem_filter, mem_allC]
            refine ⟨by simp [m], ?_⟩
            simp only [condK, decide_eq_true_eq]
            intro i hi
            rw [hm i hi, hm _ (hlt i hi), ht.rep i (by omega)]
            (try simp only)
            by_cases hik : (t i).1 = k
            · rw [if_pos hik, if_neg (by omega)]
            · rw [if_neg hik, if_neg hik, h2 i hi]
              by_cases h3 : (t i).1 < k
              · rw [if_pos h3, if_pos (by omega)]
              · rw [if_neg h3, if_neg (by omega)]
          · have : l = updK t V k (l.getD k false) m := by
              refine ext_getD (by simp [updK, h1]) fun i hi => ?_
              have hiV : i < V := by omega
              rw [updK_get _ _ _ _ _ _ hiV, hm i hiV]
              by_cases hik : (t i).1 = k
              · rw [if_pos hik, h2 i hiV, if_pos (by omega), hik]
              · rw [if_neg hik, if_neg hik]
            simp only [List.mem_cons, List.not_mem_nil, or_false]
            generalize l.getD k false = b at this
            cases b
            · exact .inl this
            · exact .inr this
    · rw [if_neg hr]
      have : condK t V (k + 1) = condK t V k := by
        funext l
        unfold condK
        congr 1
        apply propext
        apply forall_congr'
        intro i
        apply imp_congr_right
        intro hi
        have hne : (t i).1 ≠ k := by
          intro he
          have := ht.rep i (by omega)
          rw [he] at this
          exact hr (by rw [this])
        by_cases h2 : (t i).1 < k
        · rw [if_pos h2, if_pos (by omega)]
        · rw [if_neg h2, if_neg (by omega)]
      rw [this]
      exact ih

theorem hasB_big {w i : Nat} (h : w < 2 ^ i) : hasB w i = false := by
  unfold hasB; rw [Nat.div_eq_of_lt h]; rfl
theorem hasB_all (n i : Nat) (h : i < n) : hasB (2 ^ n - 1) i = true := by
  have h1 := Nat.testBit_two_pow_sub_one n i
  rw [Nat.testBit_eq_decide_div_mod_eq] at h1
  unfold hasB
  simpa [h] using h1
theorem sz_eq : ∀ w, w < 256 → sz w = (List.range 8).countP (hasB w) := by decide +kernel
theorem cntG_all {V w : Nat} (hV : V ≤ 8) (hw : w < 2 ^ V) : cntG (2 ^ V - 1) (hasB w) = sz w := by
  have h8 : (2 : Nat) ^ V ≤ 2 ^ 8 := Nat.pow_le_pow_right (by omega) hV
  rw [sz_eq w (by omega)]
  unfold cntG
  apply List.countP_congr
  intro i hi
  by_cases h : i < V
  · rw [hasB_all V i h]; simp
  · rw [hasB_big (Nat.lt_of_lt_of_le hw (Nat.pow_le_pow_right (by omega) (by omega)))]; simp
theorem countP_range_ext {n m : Nat} (h : n ≤ m) (p : Nat → Bool) (hp : ∀ i, n ≤ i → p i = false) : (List.range m).countP p = (List.range n).countP p := by
  induction m with
  | zero => have : n = 0 := by omega
            subst this; rfl
  | succ m ih =>
    by_cases hm : n = m + 1
    · subst hm; rfl
    · rw [List.range_succ, List.countP_append, List.countP_singleton, hp m (by omega), ih (by omega)]; simp
theorem fits_all (gs : List Gr) (s : St) : fitsB gs s = (List.range gs.length).all fun j => match gs[j]? with | some g => inB (s j) g.2.1 g.2.2 | none => true := rfl
theorem all_range_get (gs : List Gr) (f : Gr → Bool) (k : Nat → Gr → Bool) (h : ∀ j, (hj : j < gs.length) → k j gs[j] = f gs[j]) :
    ((List.range gs.length).all fun j => match gs[j]? with | some g => k j g | none => true) = gs.all f := by
  rw [Bool.eq_iff_iff, List.all_eq_true, List.all_eq_true]
  constructor
  · intro hh x hx
    obtain ⟨j, hj, rfl⟩ := List.getElem_of_mem hx
    have := hh j (List.mem_range.2 hj)
    rw [List.getElem?_eq_getElem hj] at this
    rw [← h j hj]; exact this
  · intro hh j hj
    have hj := List.mem_range.1 hj
    rw [List.getElem?_eq_getElem hj]
    show k j gs[j] = true
    rw [h j hj]; exact hh _ (List.getElem_mem hj)
/-- How many truths there are with n white beans. -/
theorem countN_eq {V : Nat} (hV : V ≤ 8) (lo hi : Int) (L : List Kn) (hok : ∀ x ∈ L, knIn V x) (hgl : (L.filterMap grOfK).length ≤ 6) (n : Nat) :
    countN V lo hi L n = (List.range (2 ^ V)).countP fun w => inB (sz w : Nat) lo hi && L.all (rightK (hasB w)) && (sz w == n) := by
  have hk := kfold_sat V hV L hok freeT [(2 ^ V - 1, lo, hi)] (TInv.free V)
  unfold countN kfold
  generalize List.foldl kstep (some (freeT, [(2 ^ V - 1, lo, hi)])) L = r at *
  cases r with
  | none =>
    simp only
    refine Eq.symm (List.countP_eq_zero.2 fun w hw => ?_)
    rw [right_split]
    have := hk (hasB w)
    have h2 : L.all (pairR (hasB w)) = false := by
      cases h : L.all (pairR (hasB w))
      · rfl
      · exact absurd ⟨Sat.free _, h⟩ this
    rw [h2]; simp
  | some p =>
    obtain ⟨t, gs⟩ := p
    obtain ⟨ht, hgs, hs⟩ := hk
    have hgl7 : gs.length ≤ 7 := by rw [hgs]; simp; omega
    simp only
    unfold outN
    rw [(states_perm hV ht gs hgl7 V (Nat.le_refl _)).countP_eq, List.countP_map, List.countP_filter]
    unfold allC
    rw [List.countP_map]
    apply List.countP_congr
    intro w hw
    have hw := List.mem_range.1 hw
    have hlt : ∀ i, i < V → (t i).1 < V := fun i hi => ht.lt (by omega) hi
    have e1 : condK t V V (bitsL V w) = L.all (pairR (hasB w)) := by
      rw [Bool.eq_iff_iff]
      unfold condK
      rw [decide_eq_true_eq]
      have := hs (hasB w)
      constructor
      · intro h
        refine (this.2 fun i hi => ?_).2
        by_cases hv : i < V
        · have := h i hv
          rwa [if_pos (hlt i hv), bitsL_get _ _ _ hv, bitsL_get _ _ _ (hlt i hv)] at this
        · rw [ht.far i (by omega) hi]; simp
      · intro h i hv
        have := (this.1 ⟨Sat.free _, h⟩) i (by omega)
        rwa [if_pos (hlt i hv), bitsL_get _ _ _ hv, bitsL_get _ _ _ (hlt i hv)]
    have e2 : ∀ j, (hj : j < gs.length) → stL gs V (bitsL V w) j = cntG gs[j].1 (hasB w) := by
      intro j hj
      unfold stL cntG
      rw [countP_range_ext hV]
      · apply List.countP_congr
        intro i hi
        rw [bitsL_get _ _ _ (List.mem_range.1 hi)]
        unfold inG
        rw [List.getElem?_eq_getElem hj]
        simp only
        rw [Bool.and_comm]
      · intro i hi
        rw [hasB_big (Nat.lt_of_lt_of_le hw (Nat.pow_le_pow_right (by omega) hi)), Bool.and_false]
    have e3 : fitsB gs (f7 (x7 (stL gs V (bitsL V w)))) = gs.all (grR (hasB w)) := by
      rw [fits_all]
      refine all_range_get gs (grR (hasB w)) (fun j g => inB (f7 (x7 (stL gs V (bitsL V w))) j) g.2.1 g.2.2) fun j hj => ?_
      (try simp only)
      rw [f7_x7 _ j (by omega), e2 j hj]
      rfl
    have e4 : f7 (x7 (stL gs V (bitsL V w))) 0 = sz w := by
      rw [f7_x7 _ 0 (by omega), e2 0 (by rw [hgs]; simp)]
      rw [← cntG_all hV hw]
      congr 1
      simp [hgs]
    simp only [Function.comp]
    rw [e1, e3, e4, right_split, hgs, List.all_append]
    have e5 : [((2 ^ V - 1, lo, hi) : Gr)].all (grR (hasB w)) = inB (sz w : Nat) lo hi := by
      simp only [List.all_cons, List.all_nil, Bool.and_true, grR, cntG_all hV hw]
    rw [e5]
    generalize inB (sz w : Nat) lo hi = x
    generalize (L.filterMap grOfK).all (grR (hasB w)) = y
    generalize L.all (pairR (hasB w)) = z
    cases x <;> cases y <;> cases z <;> simp
end Go.Proofs.Ytjbjmoghloabpaa
