/- Parts of a proof: Tru, TruP, Holds, WaysP, TruQ, KnownP, QuietP, MoreP, MoreK. -/
import Derived.Test.YtjbjmoghloabpaaP24
import Derived.Test.YtjbjmoghloabpaaP26
import Derived.Test.YtjbjmoghloabpaaP23
set_option linter.unusedVariables false
set_option linter.unusedSimpArgs false
namespace Go.Proofs.Ytjbjmoghloabpaa
open Go.RowKit Go.Proofs
attribute [local irreducible] Ord.walk
/-- A bit of a number, as an int. -/
def bitI (x i : Nat) : Int := ((x / 2 ^ i % 2 : Nat) : Int)
theorem bitI_eq (x i j : Nat) : (bitI x i == bitI x j) = (hasB x i == hasB x j) := by
  unfold bitI hasB
  rcases Nat.mod_two_eq_zero_or_one (x / 2 ^ i) with h1 | h1 <;> rcases Nat.mod_two_eq_zero_or_one (x / 2 ^ j) with h2 | h2 <;> rw [h1, h2] <;> rfl
/-- A cell of a vote that is built, a cell beside it. -/
def HT (p o p8 : Nat) (gv v : Value) (W : World) : Prop := W.cell? ⟨p, o, none⟩ = some gv ∧ W.cell? ⟨p8, 0, none⟩ = some v
theorem HT.below {p o p8 : Nat} {gv v : Value} {W W' : World} (h : HT p o p8 gv v W) (hb : Below W.heap.size W W') : HT p o p8 gv v W' := ⟨cell_later hb h.1, cell_later hb h.2⟩
theorem HT.alloc {p o p8 : Nat} {gv v : Value} {W : World} (h : HT p o p8 gv v W) (c : Obj) : HT p o p8 gv v (W.alloc c) := h.below ((Below.refl _ _).alloc (Nat.le_refl _) _)
theorem HT.drew {p o p8 : Nat} {gv v : Value} {W : World} (h : HT p o p8 gv v W) : HT p o p8 gv v W.drew := h

end Go.Proofs.Ytjbjmoghloabpaa
set_option linter.unusedVariables false
set_option linter.unusedSimpArgs false
namespace Go.Proofs.Ytjbjmoghloabpaa
open Go.RowKit Go.Proofs
attribute [local irreducible] Ord.walk
theorem maskTo_test (f : Nat → Bool) : ∀ k i, (maskTo f k).testBit i = (decide (i < k) && f i)
  | 0, i => by simp [maskTo]
  | k + 1, i => by
    have ih := maskTo_test f k
    have hlt := maskTo_lt f k
    rw [maskTo_succ]
    cases hf : f k
    · simp only [Bool.false_eq_true, if_false, Nat.add_zero, ih]
      by_cases h : i = k
      · subst h; simp [hf]
      · rw [Bool.eq_iff_iff]; simp; omega
    · simp only [if_true]
      rw [Nat.add_comm, show 2 ^ k + maskTo f k = 2 ^ k * 1 + maskTo f k by omega, Nat.testBit_two_pow_mul_add _ hlt, ih]
      by_cases h : i < k
      · rw [if_pos h]; simp [h]; omega
      · rw [if_neg h]
        by_cases h2 : i = k
        · subst h2; simp [hf]
        · have : Nat.testBit 1 (i - k) = false := by
            rw [Nat.testBit_eq_decide_div_mod_eq, Nat.div_eq_of_lt (Nat.lt_of_lt_of_le (show 1 < 2 ^ 1 by decide) (Nat.pow_le_pow_right (by omega) (by omega)))]; rfl
          rw [this]; simp; omega
theorem cntG_and (vo w : Nat) (hv : vo < 256) : cntG vo (hasB w) = sz (vo &&& w) := by
  have h : vo &&& w ≤ vo := Nat.and_le_left
  rw [sz_eq _ (by omega)]
  unfold cntG
  congr 1
  funext i
  rw [hasB_test, hasB_test, hasB_test, Nat.testBit_and]
theorem gOk_parts {V : Int} {g : Int × Int × Int} (hV : V ≤ 8) (h : gOk V g = true) : g.1.toNat < 256 ∧ 0 ≤ g.2.1 ∧ g.2.1 ≤ g.2.2 := by
  unfold gOk at h
  simp only [Bool.and_eq_true, inB, spanB, decide_eq_true_eq] at h
  have := Nat.pow_le_pow_right (show 0 < 2 by omega) (show V.toNat ≤ 8 by omega)
  have e : (2 : Nat) ^ 8 = 256 := rfl
  generalize 2 ^ V.toNat = q at *
  omega
section
variable {b : Bn} (hv : valid b = true) {wh : Nat} (hw : wh < 2 ^ b.V.toNat)
include hv hw
end
section
variable {l : List Nat} {wh : Nat} (hm : wh ∈ l)
include hm
end
theorem bitI_test (x i : Nat) : bitI x i = if x.testBit i then 1 else 0 := by
  unfold bitI
  rw [Nat.testBit_eq_decide_div_mod_eq]
  rcases Nat.mod_two_eq_zero_or_one (x / 2 ^ i) with h | h <;> rw [h] <;> rfl
end Go.Proofs.Ytjbjmoghloabpaa
set_option linter.unusedVariables false
set_option linter.unusedSimpArgs false
namespace Go.Proofs.Ytjbjmoghloabpaa
open Go.RowKit Go.Proofs
attribute [local irreducible] Ord.walk
def hG (wh : Nat) (g : Int × Int × Int) : Bool := inB (sz (g.1.toNat &&& wh) : Nat) g.2.1 g.2.2
def hP (wh : Nat) (p : Int × Int × Bool) : Bool := ((bitI wh p.1.toNat == bitI wh p.2.1.toNat) == p.2.2)
def holdsB (b : Bn) (wh : Nat) : Bool := b.gs.all (hG wh) && (b.ps.all (hP wh) && inB (sz wh : Nat) b.lo b.hi)
end Go.Proofs.Ytjbjmoghloabpaa
set_option linter.unusedVariables false
set_option linter.unusedSimpArgs false
namespace Go.Proofs.Ytjbjmoghloabpaa
open Go.RowKit Go.Proofs
attribute [local irreducible] Ord.walk
theorem okB_holds {b : Bn} (hv : valid b = true) {w : Nat} (hw : w < 256) : okB b (2 ^ b.kn - 1) w = holdsB b w := by
  have hV := valid_V hv
  unfold okB
  rw [okTo_eq hv _ _ _ (by rw [kn_len]; exact Nat.le_refl _)]
  have h0 : selTo (knOf b) (2 ^ b.kn - 1) b.kn = knOf b := by
    have := sel_full (knOf b) []
    unfold sel at this
    rw [List.append_nil, List.append_nil, kn_len] at this
    exact this
  rw [h0]
  unfold holdsB knOf
  rw [List.all_append, List.all_map, List.all_map]
  have e1 : b.gs.all ((rightK (hasB w)) ∘ gkn) = b.gs.all (hG w) := by
    rw [Bool.eq_iff_iff, List.all_eq_true, List.all_eq_true]
    have hgo : ∀ g ∈ b.gs, gOk b.V g = true := by
      have h := hv
      simp only [valid, Bool.and_eq_true, List.all_eq_true] at h; exact h.1.2
    have key : ∀ g ∈ b.gs, ((rightK (hasB w)) ∘ gkn) g = hG w g := by
      intro g hg
      obtain ⟨h1, _⟩ := gOk_parts hV.2 (hgo g hg)
      show inB (cntG g.1.toNat (hasB w) : Nat) g.2.1 g.2.2 = inB (sz (g.1.toNat &&& w) : Nat) g.2.1 g.2.2
      rw [cntG_and _ _ h1]
    exact ⟨fun h g hg => by rw [← key g hg]; exact h g hg, fun h g hg => by rw [key g hg]; exact h g hg⟩
  have e2 : b.ps.all ((rightK (hasB w)) ∘ pkn) = b.ps.all (hP w) := by
    congr 1
    funext p
    show ((hasB w p.1.toNat == hasB w p.2.1.toNat) == p.2.2) = ((bitI w p.1.toNat == bitI w p.2.1.toNat) == p.2.2)
    rw [bitI_eq]
  rw [e1, e2]
  generalize b.gs.all (hG w) = x
  generalize b.ps.all (hP w) = y
  generalize inB (sz w : Nat) b.lo b.hi = z
  cases x <;> cases y <;> cases z <;> rfl
/-- The truths below a number. -/
def LK (b : Bn) (k : Nat) : List Nat := (List.range k).filter (holdsB b)
theorem LK_all {b : Bn} (hv : valid b = true) : LK b (2 ^ b.V.toNat) = TL b := by
  have hV := valid_V hv
  have h8 := Nat.pow_le_pow_right (show 0 < 2 by omega) (show b.V.toNat ≤ 8 by omega)
  have e : (2 : Nat) ^ 8 = 256 := rfl
  unfold LK TL truthsL
  apply List.filter_congr
  intro w hw
  exact (okB_holds hv (by have := List.mem_range.1 hw; omega)).symm
end Go.Proofs.Ytjbjmoghloabpaa
set_option linter.unusedVariables false
set_option linter.unusedSimpArgs false
namespace Go.Proofs.Ytjbjmoghloabpaa
open Go.RowKit Go.Proofs
attribute [local irreducible] Ord.walk
end Go.Proofs.Ytjbjmoghloabpaa
set_option linter.unusedVariables false
set_option linter.unusedSimpArgs false
namespace Go.Proofs.Ytjbjmoghloabpaa
open Go.RowKit Go.Proofs
attribute [local irreducible] Ord.walk
end Go.Proofs.Ytjbjmoghloabpaa
set_option linter.unusedVariables false
set_option linter.unusedSimpArgs false
namespace Go.Proofs.Ytjbjmoghloabpaa
open Go.RowKit Go.Proofs
attribute [local irreducible] Ord.walk
theorem white_mono (l m : List Nat) (h : ∀ x ∈ m, x ∈ l) (V : Nat) : ∀ i, (whiteM l V).testBit i = true → (whiteM m V).testBit i = true := by
  intro i
  unfold whiteM
  rw [maskTo_test, maskTo_test]
  simp only [Bool.and_eq_true, beq_iff_eq]
  rintro ⟨h1, h2⟩
  refine ⟨h1, ?_⟩
  unfold cntH at h2 ⊢
  exact List.countP_eq_length.2 fun x hx => List.countP_eq_length.1 h2 x (h x hx)
theorem black_mono (l m : List Nat) (h : ∀ x ∈ m, x ∈ l) (V : Nat) : ∀ i, (blackM l V).testBit i = true → (blackM m V).testBit i = true := by
  intro i
  unfold blackM
  rw [maskTo_test, maskTo_test]
  simp only [Bool.and_eq_true, beq_iff_eq]
  rintro ⟨h1, h2⟩
  refine ⟨h1, ?_⟩
  unfold cntH at h2 ⊢
  exact List.countP_eq_zero.2 fun x hx => List.countP_eq_zero.1 h2 x (h x hx)
end Go.Proofs.Ytjbjmoghloabpaa
set_option linter.unusedVariables false
set_option linter.unusedSimpArgs false
namespace Go.Proofs.Ytjbjmoghloabpaa
open Go.RowKit Go.Proofs
/-- What BeanMore asks of a vote. -/
structure Told (b : Bn) (lo hi wh bl n q : Nat) (e : Int) : Prop where
  whites : whitesR b = ((lo : Int), (hi : Int), e)
  known : knownR b = ((wh : Int), (bl : Int), e)
  count : countR b = ((n : Int), 0)
  quiet : quietR b = ((q : Int), e)
  len : n = (TL b).length
  lt : lo ≤ 8 ∧ hi ≤ 8 ∧ wh < 512 ∧ bl < 512 ∧ n ≤ 256 ∧ q < 1024
  case : (TL b = [] ∧ e = 10 ∧ lo = 0 ∧ hi = 0 ∧ wh = 0 ∧ bl = 0 ∧ q = 0) ∨ (TL b ≠ [] ∧ e = 0 ∧ lo = loL (TL b) ∧ hi = hiL (TL b) ∧ wh = whiteM (TL b) b.V.toNat ∧ bl = blackM (TL b) b.V.toNat ∧ q = quietM (TL b) b.V.toNat (b.V.toNat + 1))
theorem maskTo_lt8 (f : Nat → Bool) : ∀ k, maskTo f k < 2 ^ k
  | 0 => by simp [maskTo]
  | k + 1 => by
    have := maskTo_lt8 f k
    simp only [maskTo]
    split <;> omega
theorem valid_V8 {b : Bn} (hv : valid b = true) : 1 ≤ b.V ∧ b.V ≤ 8 := by
  unfold valid headOk at hv
  simp only [Bool.and_eq_true] at hv
  have := hv.1.1.1.1.1.1
  unfold inB at this
  simpa using this
theorem pow_le8 {k : Nat} (h : k ≤ 8) : 2 ^ k ≤ 256 := Nat.pow_le_pow_right (n := 2) (by omega) h
theorem told {b : Bn} (hv : valid b = true) : ∃ lo hi wh bl n q e, Told b lo hi wh bl n q e := by
  obtain ⟨hV1, hV8⟩ := valid_V8 hv
  have h8 : b.V.toNat ≤ 8 := by omega
  have hlen : (TL b).length ≤ 256 := by
    rw [← LK_all hv]
    unfold LK
    exact Nat.le_trans (List.length_filter_le _ _) (by rw [List.length_range]; exact pow_le8 h8)
  have hc0 : chkE b true = 0 := by unfold chkE; simp [hv]
  have hcount : countR b = (((TL b).length : Int), 0) := by unfold countR; rw [if_pos hc0]
  by_cases ht : TL b = []
  · have e1 : toldE b true = 10 := by unfold toldE; simp [hv, ht]
    refine ⟨0, 0, 0, 0, (TL b).length, 0, 10, ?_, ?_, hcount, ?_, rfl, by omega, .inl ⟨ht, rfl, rfl, rfl, rfl, rfl, rfl⟩⟩
    · unfold whitesR; rw [e1, if_neg (by omega)]; rfl
    · unfold knownR; rw [e1, if_neg (by omega)]; rfl
    · unfold quietR; rw [e1, if_neg (by omega)]; rfl
  · have e1 : toldE b true = 0 := by unfold toldE; simp [hv, ht]
    have hs := TL_sz hv
    obtain ⟨_, x, hx, hlo⟩ := loL_prop ht
    obtain ⟨_, y, hy, hhi⟩ := hiL_prop ht
    have h1 := hs x hx
    have h2 := hs y hy
    have p8 := pow_le8 h8
    have w1 := maskTo_lt8 (fun v => cntH (TL b) v == (TL b).length) b.V.toNat
    have w2 := maskTo_lt8 (fun v => cntH (TL b) v == 0) b.V.toNat
    have w3 := maskTo_lt8 (quietB (TL b) b.V.toNat) (b.V.toNat + 1)
    have p9 : 2 ^ (b.V.toNat + 1) ≤ 512 := Nat.pow_le_pow_right (n := 2) (by omega) (show b.V.toNat + 1 ≤ 9 by omega)
    refine ⟨_, _, _, _, _, _, 0, ?_, ?_, hcount, ?_, rfl, ⟨?_, ?_, ?_, ?_, hlen, ?_⟩, .inr ⟨ht, rfl, rfl, rfl, rfl, rfl, rfl⟩⟩
    · unfold whitesR; rw [if_pos e1]
    · unfold knownR; rw [if_pos e1]
    · unfold quietR; rw [if_pos e1]
    · omega
    · omega
    · unfold whiteM; omega
    · unfold blackM; omega
    · unfold quietM; omega
theorem andNot_sub {x y : Nat} (hx : x < 512) (hy : y < 512) (h : ∀ i, x.testBit i = true → y.testBit i = true) : bits .andNot .i64 (x : Int) (y : Int) = 0 := by
  rw [andNot_i64 x y (by omega) (by omega), (andNot_zero x y).2 h]
  rfl
theorem TL_in {b : Bn} (hv : valid b = true) (x : Nat) : x ∈ TL b ↔ x < 2 ^ b.V.toNat ∧ holdsB b x = true := by
  rw [← LK_all hv]
  unfold LK
  rw [List.mem_filter, List.mem_range]
/-- What is known better is told no less exactly. -/
theorem more_sub {b q : Bn} (hv : valid b = true) (hq : valid q = true) (hV : q.V = b.V) (h : ∀ x, holdsB q x = true → holdsB b x = true) {lo hi wh bl n s lo' hi' wh' bl' n' s' : Nat} {e k : Int} (T : Told b lo hi wh bl n s e) (U : Told q lo' hi' wh' bl' n' s' k) :
    (n' : Int) ≤ n ∧ (k = 10 ∨ (k = 0 ∧ e = 0 ∧ (lo : Int) ≤ lo' ∧ (hi' : Int) ≤ hi ∧ bits .andNot .i64 (wh : Int) (wh' : Int) = 0 ∧ bits .andNot .i64 (bl : Int) (bl' : Int) = 0)) := by
  have hsub : ∀ x ∈ TL q, x ∈ TL b := fun x hx => by
    have := (TL_in hq x).1 hx
    rw [hV] at this
    exact (TL_in hv x).2 ⟨this.1, h x this.2⟩
  refine ⟨?_, ?_⟩
  · have h1 : (TL q).length ≤ (TL b).length := by
      rw [← LK_all hv, ← LK_all hq, hV]
      unfold LK
      rw [← List.countP_eq_length_filter, ← List.countP_eq_length_filter]
      exact List.countP_mono_left fun x _ hx => h x hx
    rw [T.len, U.len]
    omega
  · rcases U.case with ⟨_, h1, _⟩ | ⟨hne, h1, u1, u2, u3, u4, _⟩
    · exact .inl h1
    · have hnb : TL b ≠ [] := fun e => by
        obtain ⟨x, hx⟩ := List.exists_mem_of_ne_nil _ hne
        have := hsub x hx
        rw [e] at this
        cases this
      rcases T.case with ⟨h2, _⟩ | ⟨_, h2, t1, t2, t3, t4, _⟩
      · exact absurd h2 hnb
      · obtain ⟨a1, a2⟩ := loL_prop hne
        obtain ⟨b1, b2⟩ := hiL_prop hne
        obtain ⟨c1, c2⟩ := loL_prop hnb
        obtain ⟨d1, d2⟩ := hiL_prop hnb
        obtain ⟨x, hx, ex⟩ := a2
        obtain ⟨y, hy, ey⟩ := b2
        have g1 := c1 x (hsub x hx)
        have g2 := d1 y (hsub y hy)
        refine .inr ⟨h1, h2, by omega, by omega, ?_, ?_⟩
        · refine andNot_sub T.lt.2.2.1 U.lt.2.2.1 ?_
          rw [t3, u3, hV]
          exact white_mono _ _ hsub _
        · refine andNot_sub T.lt.2.2.2.1 U.lt.2.2.2.1 ?_
          rw [t4, u4, hV]
          exact black_mono _ _ hsub _
/-- Votes of which the same is told. -/
theorem more_same {b q : Bn} (hv : valid b = true) (hq : valid q = true) (hV : q.V = b.V) (h : ∀ x, holdsB q x = holdsB b x) {lo hi wh bl n s lo' hi' wh' bl' n' s' : Nat} {e k : Int} (T : Told b lo hi wh bl n s e) (U : Told q lo' hi' wh' bl' n' s' k) : lo' = lo ∧ hi' = hi ∧ wh' = wh ∧ bl' = bl ∧ n' = n ∧ s' = s ∧ k = e := by
  have hT : TL q = TL b := by
    rw [← LK_all hv, ← LK_all hq, hV]
    unfold LK
    exact List.filter_congr fun x _ => h x
  have h1 := T.len
  have h2 := U.len
  have h3 := T.case
  have h4 := U.case
  rw [hT, hV] at h4
  rw [hT] at h2
  rcases h3 with ⟨a, b, c⟩ | ⟨a, b, c⟩ <;> rcases h4 with ⟨a', b', c'⟩ | ⟨a', b', c'⟩
  · omega
  · exact absurd a a'
  · exact absurd a' a
  · omega
def addG (b : Bn) (g : Int × Int × Int) : Bn := { b with gs := b.gs ++ [g] }
def addP (b : Bn) (p : Int × Int × Bool) : Bn := { b with ps := b.ps ++ [p] }
def narG (g : Int × Int × Int) : Int × Int × Int := (g.1, min g.2.2 (g.2.1 + 1), g.2.2)
def zG (b : Bn) (i : Nat) : Bn := { b with gs := b.gs.set i (narG (b.gs.getD i (0, 0, 0))) }
def swP (p : Int × Int × Bool) : Int × Int × Bool := (p.2.1, p.1, p.2.2)
def turnB (b : Bn) : Bn := { b with gs := b.gs.reverse, ps := b.ps.reverse.map swP }
theorem addG_sub (b : Bn) (g : Int × Int × Int) (x : Nat) (h : holdsB (addG b g) x = true) : holdsB b x = true := by
  unfold holdsB addG at h
  simp only [List.all_append, Bool.and_eq_true] at h
  unfold holdsB
  simp only [Bool.and_eq_true]
  exact ⟨h.1.1, h.2⟩
theorem addP_sub (b : Bn) (p : Int × Int × Bool) (x : Nat) (h : holdsB (addP b p) x = true) : holdsB b x = true := by
  unfold holdsB addP at h
  simp only [List.all_append, Bool.and_eq_true] at h
  unfold holdsB
  simp only [Bool.and_eq_true]
  exact ⟨h.1, h.2.1.1, h.2.2⟩
theorem zG_sub {b : Bn} (hv : valid b = true) {i : Nat} (hi : i < b.gs.length) (x : Nat) (h : holdsB (zG b i) x = true) : holdsB b x = true := by
  unfold holdsB zG at h
  unfold holdsB
  simp only [Bool.and_eq_true] at h ⊢
  refine ⟨?_, h.2⟩
  have h1 := List.all_eq_true.1 h.1
  refine List.all_eq_true.2 fun g hg => ?_
  obtain ⟨j, hj, rfl⟩ := List.getElem_of_mem hg
  by_cases hji : i = j
  · subst hji
    have h2 := h1 _ (List.getElem_mem (l := b.gs.set i (narG (b.gs.getD i (0, 0, 0)))) (n := i) (by simpa using hj))
    rw [List.getElem_set_self] at h2
    have hg2 : b.gs.getD i (0, 0, 0) = b.gs[i] := by rw [List.getD_eq_getElem?_getD, List.getElem?_eq_getElem hi]; rfl
    rw [hg2] at h2
    unfold valid at hv
    simp only [Bool.and_eq_true] at hv
    have h3 := List.all_eq_true.1 hv.1.2 _ (List.getElem_mem hi)
    unfold gOk spanB at h3
    unfold hG narG inB at h2
    unfold hG inB
    simp only [Bool.and_eq_true, decide_eq_true_eq] at h2 h3 ⊢
    omega
  · have h2 := h1 _ (List.getElem_mem (l := b.gs.set i (narG (b.gs.getD i (0, 0, 0)))) (n := j) (by simpa using hj))
    rwa [List.getElem_set_ne hji] at h2
theorem hP_swap (x : Nat) (p : Int × Int × Bool) : hP x (swP p) = hP x p := by
  unfold hP swP
  simp only
  rw [Bool.beq_comm (a := bitI x p.2.1.toNat == bitI x p.1.toNat), Bool.beq_comm (a := bitI x p.1.toNat == bitI x p.2.1.toNat)]
  congr 1
  rw [Bool.eq_iff_iff, beq_iff_eq, beq_iff_eq]
  exact eq_comm
theorem turn_holds (b : Bn) (x : Nat) : holdsB (turnB b) x = holdsB b x := by
  unfold holdsB turnB
  simp only [List.all_reverse, List.all_map]
  congr 2
  refine congrArg (fun f => b.ps.all f) (funext fun p => hP_swap x p)
theorem turn_valid {b : Bn} (hv : valid b = true) : valid (turnB b) = true := by
  unfold valid headOk at hv ⊢
  unfold turnB
  simp only [Bool.and_eq_true, List.length_reverse, List.length_map, List.all_reverse, List.all_map] at hv ⊢
  refine ⟨⟨hv.1.1, hv.1.2⟩, ?_⟩
  refine List.all_eq_true.2 fun p hp => ?_
  have h := List.all_eq_true.1 hv.2 p hp
  unfold pOk at h
  simp only [Function.comp_apply]
  unfold pOk swP
  simp only [Bool.and_eq_true, Bool.not_eq_true', beq_eq_false_iff_ne] at h ⊢
  exact ⟨⟨h.1.2, h.1.1⟩, fun e => h.2 e.symm⟩
def flG (g : Int × Int × Int) : Int × Int × Int := (g.1, max 0 ((sz g.1.toNat : Int) - g.2.2), (sz g.1.toNat : Int) - g.2.1)
def otherB (b : Bn) : Bn := { b with lo := b.V - b.hi, hi := b.V - b.lo, gs := b.gs.reverse.map flG }
def allO (b : Bn) : Bool := b.gs.all fun g => decide (0 ≤ (flG g).2.2)
theorem szB : ∀ x, x < 256 → sz x = ([0, 1, 2, 3, 4, 5, 6, 7] : List Nat).countP fun i => x.testBit i := by decide +kernel
theorem countP_add (l : List Nat) (p q r : Nat → Bool) (h : ∀ i ∈ l, (p i).toNat + (q i).toNat = (r i).toNat) : l.countP p + l.countP q = l.countP r := by
  induction l with
  | nil => rfl
  | cons a l ih =>
    have h1 := ih fun i hi => h i (by simp [hi])
    have h2 := h a (by simp)
    simp only [List.countP_cons]
    cases hp : p a <;> cases hq : q a <;> cases hr : r a <;> simp [hp, hq, hr] at h2 ⊢ <;> omega
theorem comp_bit {V x i : Nat} (hx : x < 2 ^ V) (hi : i < V) : (2 ^ V - 1 - x).testBit i = !x.testBit i := by
  have : 2 ^ V - 1 - x = 2 ^ V - (x + 1) := by omega
  rw [this, Nat.testBit_two_pow_sub_succ hx]
  simp [hi]
theorem sz_comp {V x v : Nat} (hV : V ≤ 8) (hx : x < 2 ^ V) (hv : v < 2 ^ V) : sz (v &&& x) + sz (v &&& (2 ^ V - 1 - x)) = sz v := by
  have p8 := pow_le8 hV
  have h1 : v &&& x < 256 := Nat.lt_of_le_of_lt (Nat.and_le_left) (by omega)
  have h2 : v &&& (2 ^ V - 1 - x) < 256 := Nat.lt_of_le_of_lt (Nat.and_le_left) (by omega)
  rw [szB _ h1, szB _ h2, szB v (by omega)]
  refine countP_add _ _ _ _ fun i hi => ?_
  simp only [Nat.testBit_and]
  by_cases hiV : i < V
  · rw [comp_bit hx hiV]
    cases v.testBit i <;> cases x.testBit i <;> rfl
  · have : v.testBit i = false := Nat.testBit_lt_two_pow (Nat.lt_of_lt_of_le hv (Nat.pow_le_pow_right (n := 2) (by omega) (by omega)))
    rw [this]
    rfl
theorem sz_full {V : Nat} (hV : V ≤ 8) : sz (2 ^ V - 1) = V := by
  have : ∀ V, V < 9 → sz (2 ^ V - 1) = V := by decide +kernel
  exact this V (by omega)
theorem sz_comp1 {V x : Nat} (hV : V ≤ 8) (hx : x < 2 ^ V) : sz x + sz (2 ^ V - 1 - x) = V := by
  have h := sz_comp hV hx (v := 2 ^ V - 1) (by have := Nat.two_pow_pos V; omega)
  rw [sz_full hV] at h
  have e1 : (2 ^ V - 1) &&& x = x := by rw [Nat.and_comm, Nat.and_two_pow_sub_one_eq_mod, Nat.mod_eq_of_lt hx]
  have e2 : (2 ^ V - 1) &&& (2 ^ V - 1 - x) = 2 ^ V - 1 - x := by rw [Nat.and_comm, Nat.and_two_pow_sub_one_eq_mod, Nat.mod_eq_of_lt (by have := Nat.two_pow_pos V; omega)]
  rw [e1, e2] at h
  exact h
theorem other_valid {b : Bn} (hv : valid b = true) (ho : allO b = true) : valid (otherB b) = true := by
  obtain ⟨hV1, hV8⟩ := valid_V8 hv
  unfold valid headOk at hv ⊢
  unfold otherB
  simp only [Bool.and_eq_true, List.length_reverse, List.length_map, List.all_reverse, List.all_map] at hv ⊢
  obtain ⟨⟨⟨⟨⟨⟨h1, h2⟩, h3⟩, h4⟩, h5⟩, h6⟩, h7⟩ := hv
  refine ⟨⟨⟨⟨⟨⟨h1, h2⟩, ?_⟩, h4⟩, h5⟩, ?_⟩, h7⟩
  · unfold spanB at h3 ⊢
    simp only [Bool.and_eq_true, decide_eq_true_eq] at h3 ⊢
    omega
  · refine List.all_eq_true.2 fun g hg => ?_
    have h := List.all_eq_true.1 h6 g hg
    have hoo := List.all_eq_true.1 ho g hg
    have hg8 := (gOk_parts hV8 h).1
    have hs := sz_le hg8
    unfold gOk at h
    simp only [Function.comp_apply]
    unfold gOk flG
    unfold flG at hoo
    unfold spanB at h ⊢
    simp only [Bool.and_eq_true, decide_eq_true_eq] at h hoo ⊢
    refine ⟨h.1, ?_⟩
    omega
theorem hG_fl {V x : Nat} (h8 : V ≤ 8) (hx : x < 2 ^ V) {g : Int × Int × Int} (hg : g.1.toNat < 2 ^ V) : hG x (flG g) = hG (2 ^ V - 1 - x) g := by
  have hs := sz_comp h8 hx hg
  unfold hG flG inB
  generalize 2 ^ V - 1 - x = y at *
  simp only
  generalize sz (g.1.toNat &&& x) = c at *
  generalize sz (g.1.toNat &&& y) = d at *
  generalize sz g.1.toNat = f at *
  rw [Bool.eq_iff_iff]
  simp only [Bool.and_eq_true, decide_eq_true_eq]
  omega
theorem hP_fl {V x : Nat} (hx : x < 2 ^ V) {p : Int × Int × Bool} (h1 : p.1.toNat < V) (h2 : p.2.1.toNat < V) : hP x p = hP (2 ^ V - 1 - x) p := by
  unfold hP
  rw [bitI_test, bitI_test, bitI_test, bitI_test, comp_bit hx h1, comp_bit hx h2]
  cases x.testBit p.1.toNat <;> cases x.testBit p.2.1.toNat <;> rfl
theorem all_congr' {α : Type} {l : List α} {p q : α → Bool} (h : ∀ a ∈ l, p a = q a) : l.all p = l.all q := by
  rw [Bool.eq_iff_iff, List.all_eq_true, List.all_eq_true]
  exact ⟨fun hp a ha => by rw [← h a ha]; exact hp a ha, fun hp a ha => by rw [h a ha]; exact hp a ha⟩
theorem other_holds {b : Bn} (hv : valid b = true) {x : Nat} (hx : x < 2 ^ b.V.toNat) : holdsB (otherB b) x = holdsB b (2 ^ b.V.toNat - 1 - x) := by
  obtain ⟨hV1, hV8⟩ := valid_V8 hv
  have h8 : b.V.toNat ≤ 8 := by omega
  unfold valid at hv
  simp only [Bool.and_eq_true] at hv
  have k1 : (otherB b).gs.all (hG x) = b.gs.all (hG (2 ^ b.V.toNat - 1 - x)) := by
    unfold otherB
    simp only [List.all_map, List.all_reverse]
    refine all_congr' fun g hg => ?_
    have h := List.all_eq_true.1 hv.1.2 g hg
    unfold gOk at h
    simp only [Bool.and_eq_true] at h
    have h1 := h.1
    unfold inB at h1
    simp only [Bool.and_eq_true, decide_eq_true_eq] at h1
    refine hG_fl h8 hx ?_
    generalize 2 ^ b.V.toNat = N at *
    omega
  have k2 : (otherB b).ps.all (hP x) = b.ps.all (hP (2 ^ b.V.toNat - 1 - x)) := by
    refine all_congr' fun p hp => ?_
    have h := List.all_eq_true.1 hv.2 p hp
    unfold pOk inB at h
    simp only [Bool.and_eq_true, decide_eq_true_eq] at h
    exact hP_fl hx (by omega) (by omega)
  have k3 : inB (sz x : Nat) (otherB b).lo (otherB b).hi = inB (sz (2 ^ b.V.toNat - 1 - x) : Nat) b.lo b.hi := by
    have hs := sz_comp1 h8 hx
    unfold inB otherB
    simp only
    generalize 2 ^ b.V.toNat - 1 - x = y at *
    rw [Bool.eq_iff_iff]
    simp only [Bool.and_eq_true, decide_eq_true_eq]
    omega
  unfold holdsB
  rw [k1, k2, k3]
theorem other_in {b : Bn} (hv : valid b = true) (ho : allO b = true) {x : Nat} (hx : x < 2 ^ b.V.toNat) : x ∈ TL (otherB b) ↔ 2 ^ b.V.toNat - 1 - x ∈ TL b := by
  rw [TL_in (other_valid hv ho), TL_in hv]
  show x < 2 ^ b.V.toNat ∧ _ ↔ _
  rw [other_holds hv hx]
  have := Nat.two_pow_pos b.V.toNat
  constructor
  · rintro ⟨h1, h2⟩; exact ⟨by omega, h2⟩
  · rintro ⟨h1, h2⟩; exact ⟨hx, h2⟩
theorem range_comp (N : Nat) : (List.range N).map (fun i => N - 1 - i) = (List.range N).reverse := by
  refine List.ext_getElem (by simp) fun i h1 h2 => ?_
  simp at h1
  simp [List.getElem_reverse]
theorem other_len {b : Bn} (hv : valid b = true) (ho : allO b = true) : (TL (otherB b)).length = (TL b).length := by
  rw [← LK_all hv, ← LK_all (other_valid hv ho)]
  unfold LK
  rw [← List.countP_eq_length_filter, ← List.countP_eq_length_filter]
  show (List.range (2 ^ b.V.toNat)).countP _ = _
  have h1 : (List.range (2 ^ b.V.toNat)).countP (holdsB (otherB b)) = (List.range (2 ^ b.V.toNat)).countP (holdsB b ∘ fun i => 2 ^ b.V.toNat - 1 - i) :=
    List.countP_congr fun x hx => by rw [other_holds hv (List.mem_range.1 hx)]; rfl
  rw [h1, ← List.countP_map, range_comp, List.countP_reverse]
theorem maskTo_congr {f g : Nat → Bool} : ∀ k, (∀ i, i < k → f i = g i) → maskTo f k = maskTo g k
  | 0, _ => rfl
  | k + 1, h => by
    simp only [maskTo]
    rw [maskTo_congr k fun i hi => h i (by omega), h k (by omega)]
theorem more_other {b : Bn} (hv : valid b = true) (ho : allO b = true) {lo hi wh bl n s lo' hi' wh' bl' n' s' : Nat} {e k : Int} (T : Told b lo hi wh bl n s e) (U : Told (otherB b) lo' hi' wh' bl' n' s' k) :
    k = e ∧ n' = n ∧ wh' = bl ∧ bl' = wh ∧ (e = 0 → (lo' : Int) = b.V - hi ∧ (hi' : Int) = b.V - lo) := by
  obtain ⟨hV1, hV8⟩ := valid_V8 hv
  have h8 : b.V.toNat ≤ 8 := by omega
  have hl := other_len hv ho
  have hn : n' = n := by rw [T.len, U.len, hl]
  have hlt : ∀ x ∈ TL b, x < 2 ^ b.V.toNat := fun x hx => ((TL_in hv x).1 hx).1
  have hltu : ∀ x ∈ TL (otherB b), x < 2 ^ b.V.toNat := fun x hx => ((TL_in (other_valid hv ho) x).1 hx).1
  have hto : ∀ x ∈ TL b, 2 ^ b.V.toNat - 1 - x ∈ TL (otherB b) := fun x hx => by
    have h1 := hlt x hx
    refine (other_in hv ho (by omega)).2 ?_
    rw [show 2 ^ b.V.toNat - 1 - (2 ^ b.V.toNat - 1 - x) = x by omega]
    exact hx
  have hfro : ∀ x ∈ TL (otherB b), 2 ^ b.V.toNat - 1 - x ∈ TL b := fun x hx => (other_in hv ho (hltu x hx)).1 hx
  rcases T.case with ⟨t0, t1, t2, t3, t4, t5, t6⟩ | ⟨t0, t1, t2, t3, t4, t5, t6⟩ <;> rcases U.case with ⟨u0, u1, u2, u3, u4, u5, u6⟩ | ⟨u0, u1, u2, u3, u4, u5, u6⟩
  · exact ⟨by omega, hn, by omega, by omega, fun h => by omega⟩
  · exfalso
    obtain ⟨x, hx⟩ := List.exists_mem_of_ne_nil _ u0
    have := hfro x hx
    rw [t0] at this
    cases this
  · exfalso
    obtain ⟨x, hx⟩ := List.exists_mem_of_ne_nil _ t0
    have := hto x hx
    rw [u0] at this
    cases this
  · have hcw : ∀ v, v < b.V.toNat → ((cntH (TL (otherB b)) v == (TL (otherB b)).length) = (cntH (TL b) v == 0)) := fun v hvv => by
      rw [Bool.eq_iff_iff, beq_iff_eq, beq_iff_eq]
      unfold cntH
      rw [List.countP_eq_length, List.countP_eq_zero]
      constructor
      · intro h x hx
        have := h _ (hto x hx)
        rw [hasB_test, comp_bit (hlt x hx) hvv] at this
        rw [hasB_test]
        simpa using this
      · intro h x hx
        have := h _ (hfro x hx)
        rw [hasB_test, comp_bit (hltu x hx) hvv] at this
        rw [hasB_test]
        simpa using this
    have hcb : ∀ v, v < b.V.toNat → ((cntH (TL (otherB b)) v == 0) = (cntH (TL b) v == (TL b).length)) := fun v hvv => by
      rw [Bool.eq_iff_iff, beq_iff_eq, beq_iff_eq]
      unfold cntH
      rw [List.countP_eq_length, List.countP_eq_zero]
      constructor
      · intro h x hx
        have := h _ (hto x hx)
        rw [hasB_test, comp_bit (hlt x hx) hvv] at this
        rw [hasB_test]
        simpa using this
      · intro h x hx
        have := h _ (hfro x hx)
        rw [hasB_test, comp_bit (hltu x hx) hvv] at this
        rw [hasB_test]
        simpa using this
    refine ⟨by omega, hn, ?_, ?_, fun _ => ?_⟩
    · rw [u4, t5]
      exact maskTo_congr _ hcw
    · rw [u5, t4]
      exact maskTo_congr _ hcb
    · obtain ⟨a1, x, hx, ex⟩ := loL_prop t0
      obtain ⟨b1, y, hy, ey⟩ := hiL_prop t0
      obtain ⟨c1, z, hz, ez⟩ := loL_prop u0
      obtain ⟨d1, v, hv2, ev⟩ := hiL_prop u0
      have g1 := c1 _ (hto y hy)
      have g2 := d1 _ (hto x hx)
      have g3 := b1 _ (hfro z hz)
      have g4 := a1 _ (hfro v hv2)
      have s1 := sz_comp1 h8 (hlt x hx)
      have s2 := sz_comp1 h8 (hlt y hy)
      have s3 := sz_comp1 h8 (hltu z hz)
      have s4 := sz_comp1 h8 (hltu v hv2)
      omega
end Go.Proofs.Ytjbjmoghloabpaa
set_option linter.unusedVariables false
set_option linter.unusedSimpArgs false
namespace Go.Proofs.Ytjbjmoghloabpaa
open Go.RowKit Go.Proofs
/-- What the program tells of one vote, in letters. -/
structure Four (bq : Value) (w0 : World) (lo hi wh bl n q : Nat) (e : Int) : Prop where
  whites : ∀ W, Below w0.heap.size w0 W → Calls Try.prog 14 #[bq] W (Gives2 (.agg #[.int .i64 (lo : Int), .int .i64 (hi : Int)]) (.int .i64 e) W)
  known : ∀ W, Below w0.heap.size w0 W → Calls Try.prog 18 #[bq] W (Gives3 (.int .i64 (wh : Int)) (.int .i64 (bl : Int)) (.int .i64 e) W)
  count : ∀ W, Below w0.heap.size w0 W → Calls Try.prog 24 #[bq] W (Gives2 (.int .i64 (n : Int)) (.int .i64 0) W)
  quiet : ∀ W, Below w0.heap.size w0 W → Calls Try.prog 28 #[bq] W (Gives2 (.int .i64 (q : Int)) (.int .i64 e) W)
/-- A vote's rows. -/
structure BnAt (w : World) (b : Bn) (ga : Option Addr) (pa : Option Addr) : Prop where
  gs : GsAt w ga b.gs
  ps : PsAt w pa b.ps
theorem BnAt.below {w w' : World} {b : Bn} {ga pa : Option Addr} (h : BnAt w b ga pa) (hb : Below w.heap.size w w') : BnAt w' b ga pa := ⟨h.gs.below hb, h.ps.below hb⟩
theorem four {b : Bn} {w0 : World} {ga pa : Option Addr} {gc pc : Nat} (h : BnAt w0 b ga pa) (hg : b.gs.length ≤ 40) (hp : b.ps.length ≤ 40) {lo hi wh bl n q : Nat} {e : Int} (T : Told b lo hi wh bl n q e) : Four (bv b ga gc pa pc) w0 lo hi wh bl n q e := by
  refine ⟨fun W hb => ?_, fun W hb => ?_, fun W hb => ?_, fun W hb => ?_⟩
  · have := bb_Whites b ga gc pa pc W (h.below hb).gs (h.below hb).ps hg hp
    rw [T.whites] at this
    exact this
  · have := bb_Known b ga gc pa pc W (h.below hb).gs (h.below hb).ps hg hp
    rw [T.known] at this
    exact this
  · have := bb_Count b ga gc pa pc W (h.below hb).gs (h.below hb).ps hg hp
    rw [T.count] at this
    exact this
  · have := bb_Quiet b ga gc pa pc W (h.below hb).gs (h.below hb).ps hg hp
    rw [T.quiet] at this
    exact this
/-- What the law asks of a vote of which more is known. -/
def QC (bq : Value) (w0 : World) (lo hi wh bl n : Nat) (e : Int) : Prop :=
  ∃ vq, (∀ W, Below w0.heap.size w0 W → Calls Try.prog 36 #[bq] W (Gives (.bool vq) W)) ∧ (vq = true → ∃ (lo' hi' wh' bl' n' q' : Nat) (k : Int), Four bq w0 lo' hi' wh' bl' n' q' k ∧
    (n' : Int) ≤ n ∧ (k = 10 ∨ (k = 0 ∧ e = 0 ∧ (lo : Int) ≤ lo' ∧ (hi' : Int) ≤ hi ∧ bits .andNot .i64 (wh : Int) (wh' : Int) = 0 ∧ bits .andNot .i64 (bl : Int) (bl' : Int) = 0)))
end Go.Proofs.Ytjbjmoghloabpaa
