/- Parts of a proof: TruP, TruQ. -/
import Derived.Test.YtjbjmoghloabpaaM39
import Derived.Test.YtjbjmoghloabpaaM34
/- Plain laws of a vote that is truly so: what is returned of it. -/
set_option linter.unusedVariables false
set_option linter.unusedSimpArgs false
namespace Go.Proofs.Ytjbjmoghloabpaa
open Go.RowKit Go.Proofs
attribute [local irreducible] Ord.walk
theorem maskTo_test (f : Nat → Bool) : ∀ k i, (maskTo f k).testBit i = (decide (i < k) && f i)
  | 0, i => by simp [maskTo]
  | k + 1, i => by
    have ih := maskTo_test f k
    have hlt := maskTo_lt f k
    rw [maskTo_succ]
    cases hf : f k
    · simp only [Bool.false_eq_true, if_false, Nat.add_zero, ih]
      by_cases h : i = k
      · subst h; simp [hf]
      · rw [Bool.eq_iff_iff]; simp; omega
    · simp only [if_true]
      rw [Nat.add_comm, show 2 ^ k + maskTo f k = 2 ^ k * 1 + maskTo f k by omega, Nat.testBit_two_pow_mul_add _ hlt, ih]
      by_cases h : i < k
      · rw [if_pos h]; simp [h]; omega
      · rw [if_neg h]
        by_cases h2 : i = k
        · subst h2; simp [hf]
        · have : Nat.testBit 1 (i - k) = false := by
            rw [Nat.testBit_eq_decide_div_mod_eq, Nat.div_eq_of_lt (Nat.lt_of_lt_of_le (show 1 < 2 ^ 1 by decide) (Nat.pow_le_pow_right (by omega) (by omega)))]; rfl
          rw [this]; simp; omega
theorem TL_mem {b : Bn} (hv : valid b = true) (w : Nat) : w ∈ TL b ↔ w < 2 ^ b.V.toNat ∧ inB (sz w : Nat) b.lo b.hi = true ∧ ∀ x ∈ knOf b, rightK (hasB w) x = true := by
  unfold TL truthsL okB
  rw [List.mem_filter, List.mem_range, okTo_eq hv _ _ _ (by rw [kn_len]; exact Nat.le_refl _)]
  have : selTo (knOf b) (2 ^ b.kn - 1) b.kn = knOf b := by
    have := sel_full (knOf b) []
    unfold sel at this
    rw [List.append_nil, List.append_nil, kn_len] at this
    exact this
  rw [this, Bool.and_eq_true, List.all_eq_true]
theorem cntG_and (vo w : Nat) (hv : vo < 256) : cntG vo (hasB w) = sz (vo &&& w) := by
  have h : vo &&& w ≤ vo := Nat.and_le_left
  rw [sz_eq _ (by omega)]
  unfold cntG
  congr 1
  funext i
  rw [hasB_test, hasB_test, hasB_test, Nat.testBit_and]
theorem abt_sz {s : Nat} {lo hi : Int} (h3 : s ≤ 8) (h0 : 0 ≤ lo) (h1 : lo ≤ hi) : 0 ≤ (abt s 8 lo hi).1 ∧ (abt s 8 lo hi).1 ≤ s ∧ (s : Int) ≤ (abt s 8 lo hi).2 ∧ (abt s 8 lo hi).2 ≤ 8 :=
  abt_in (Int.natCast_nonneg s) (by omega) h0 h1
theorem gOk_parts {V : Int} {g : Int × Int × Int} (hV : V ≤ 8) (h : gOk V g = true) : g.1.toNat < 256 ∧ 0 ≤ g.2.1 ∧ g.2.1 ≤ g.2.2 := by
  unfold gOk at h
  simp only [Bool.and_eq_true, inB, spanB, decide_eq_true_eq] at h
  have := Nat.pow_le_pow_right (show 0 < 2 by omega) (show V.toNat ≤ 8 by omega)
  have e : (2 : Nat) ^ 8 = 256 := rfl
  generalize 2 ^ V.toNat = q at *
  omega
theorem gOk_tr {V : Int} {wh : Nat} {g : Int × Int × Int} (hV : V ≤ 8) (h : gOk V g = true) : gOk V (trG wh g) = true := by
  obtain ⟨h1, h2, h3⟩ := gOk_parts hV h
  have h4 : g.1.toNat &&& wh ≤ g.1.toNat := Nat.and_le_left
  have h5 := abt_sz (sz_le (w := g.1.toNat &&& wh) (by omega)) h2 h3
  unfold trG
  generalize abt (sz (g.1.toNat &&& wh)) 8 g.2.1 g.2.2 = ab at *
  generalize sz (g.1.toNat &&& wh) = s at *
  unfold gOk at *
  rw [Bool.and_eq_true] at *
  refine ⟨h.1, ?_⟩
  simp only [spanB, decide_eq_true_eq]; omega
theorem right_tr {V : Int} {wh : Nat} {g : Int × Int × Int} (hV : V ≤ 8) (h : gOk V g = true) : rightK (hasB wh) (gkn (trG wh g)) = true := by
  obtain ⟨h1, h2, h3⟩ := gOk_parts hV h
  have h4 : g.1.toNat &&& wh ≤ g.1.toNat := Nat.and_le_left
  have h5 := abt_sz (sz_le (w := g.1.toNat &&& wh) (by omega)) h2 h3
  have e : rightK (hasB wh) (gkn (trG wh g)) = inB (cntG g.1.toNat (hasB wh) : Nat) (abt (sz (g.1.toNat &&& wh)) 8 g.2.1 g.2.2).1 (abt (sz (g.1.toNat &&& wh)) 8 g.2.1 g.2.2).2 := rfl
  rw [e, cntG_and _ _ h1]
  generalize abt (sz (g.1.toNat &&& wh)) 8 g.2.1 g.2.2 = ab at *
  generalize sz (g.1.toNat &&& wh) = s at *
  simp only [inB, decide_eq_true_eq]; omega
section
variable {b : Bn} (hv : valid b = true) {wh : Nat} (hw : wh < 2 ^ b.V.toNat)
include hv hw
theorem wh_lt : wh < 256 := by
  have hV := valid_V hv
  have := Nat.pow_le_pow_right (show 0 < 2 by omega) (show b.V.toNat ≤ 8 by omega)
  have e : (2 : Nat) ^ 8 = 256 := rfl
  omega
theorem wh_sz : (sz wh : Int) ≤ b.V := by
  have hV := valid_V hv
  have := pop_le_k (show b.V.toNat ≤ 8 by omega) hw
  rw [sz_pop _ (wh_lt hv hw)]; omega
theorem truly_valid : valid (trulyB b wh) = true := by
  have hV := valid_V hv
  have hnd := valid_nd hv
  have hsp := valid_wh hv
  have hln := valid_len hv
  have h0 := abt_in (most := b.V) (Int.natCast_nonneg (sz wh)) (wh_sz hv hw) hsp.1 hsp.2.1
  unfold valid headOk
  simp only [Bool.and_eq_true, List.all_eq_true, decide_eq_true_eq]
  refine ⟨⟨⟨⟨⟨⟨?_, ?_⟩, ?_⟩, ?_⟩, ?_⟩, ?_⟩, ?_⟩
  · show inB b.V 1 8 = true; simp [inB]; omega
  · show inB b.nd 0 b.V = true; simp [inB]; omega
  · show spanB (abt (sz wh) b.V b.lo b.hi).1 (abt (sz wh) b.V b.lo b.hi).2 b.V = true; simp [spanB]; omega
  · show (b.gs.map (trG wh)).length ≤ 4; rw [List.length_map]; omega
  · show (b.ps.map (trP wh)).length ≤ 4; rw [List.length_map]; omega
  · intro g hg
    obtain ⟨g, hg2, rfl⟩ := List.mem_map.1 (show g ∈ b.gs.map (trG wh) from hg)
    have : b.gs.all (gOk b.V) = true := by
      have h := hv
      simp only [valid, Bool.and_eq_true] at h; exact h.1.2
    exact gOk_tr hV.2 (List.all_eq_true.1 this g hg2)
  · intro p hp
    obtain ⟨p, hp2, rfl⟩ := List.mem_map.1 (show p ∈ b.ps.map (trP wh) from hp)
    have : b.ps.all (pOk b.V) = true := by
      have h := hv
      simp only [valid, Bool.and_eq_true] at h; exact h.2
    exact List.all_eq_true.1 this p hp2
theorem truly_mem : wh ∈ TL (trulyB b wh) := by
  have hV := valid_V hv
  have hsp := valid_wh hv
  rw [TL_mem (truly_valid hv hw)]
  have h0 := abt_in (most := b.V) (Int.natCast_nonneg (sz wh)) (wh_sz hv hw) hsp.1 hsp.2.1
  refine ⟨hw, ?_, ?_⟩
  · show inB (sz wh : Nat) (abt (sz wh) b.V b.lo b.hi).1 (abt (sz wh) b.V b.lo b.hi).2 = true
    simp only [inB, decide_eq_true_eq]; omega
  · intro x hx
    simp only [knOf, List.mem_append, List.mem_map] at hx
    rcases hx with ⟨g, hg, rfl⟩ | ⟨p, hp, rfl⟩
    · obtain ⟨g, hg2, rfl⟩ := List.mem_map.1 (show g ∈ b.gs.map (trG wh) from hg)
      have : b.gs.all (gOk b.V) = true := by
        have h := hv
        simp only [valid, Bool.and_eq_true] at h; exact h.1.2
      exact right_tr hV.2 (List.all_eq_true.1 this g hg2)
    · obtain ⟨p, hp2, rfl⟩ := List.mem_map.1 (show p ∈ b.ps.map (trP wh) from hp)
      show ((hasB wh p.1.toNat == hasB wh p.2.1.toNat) == (hasB wh p.1.toNat == hasB wh p.2.1.toNat)) = true
      simp
end
/- What a truth tells of what is returned. -/
section
variable {l : List Nat} {wh : Nat} (hm : wh ∈ l)
include hm
theorem white_in (V i : Nat) (h : (whiteM l V).testBit i = true) : hasB wh i = true := by
  unfold whiteM at h
  rw [maskTo_test, Bool.and_eq_true, beq_iff_eq] at h
  exact List.countP_eq_length.1 h.2 wh hm
theorem black_in (V i : Nat) (h : (blackM l V).testBit i = true) : hasB wh i = false := by
  unfold blackM at h
  rw [maskTo_test, Bool.and_eq_true, beq_iff_eq] at h
  have := List.countP_eq_zero.1 h.2 wh hm
  simpa using this
theorem graded_yes (p : Nat → Bool) (h : gradedI (l.countP p) l.length = 2) : p wh = true := by
  unfold gradedI at h
  split at h
  · rename_i e; exact List.countP_eq_length.1 e wh hm
  · split at h <;> omega
theorem graded_no (p : Nat → Bool) (h : gradedI (l.countP p) l.length = 0) : p wh = false := by
  unfold gradedI at h
  split at h
  · omega
  · split at h
    · rename_i e; have := List.countP_eq_zero.1 e wh hm; simpa using this
    · omega
end
theorem graded_cases (n all : Nat) : gradedI n all = 0 ∨ gradedI n all = 1 ∨ gradedI n all = 2 := by
  unfold gradedI; split
  · omega
  · split <;> omega
theorem white_sub {l : List Nat} {p : Nat → Bool} (V i : Nat) (h : (whiteM l V).testBit i = true) : (whiteM (l.filter p) V).testBit i = true := by
  unfold whiteM at *
  rw [maskTo_test, Bool.and_eq_true, beq_iff_eq] at *
  refine ⟨h.1, List.countP_eq_length.2 fun x hx => List.countP_eq_length.1 h.2 x (List.mem_filter.1 hx).1⟩
theorem black_sub {l : List Nat} {p : Nat → Bool} (V i : Nat) (h : (blackM l V).testBit i = true) : (blackM (l.filter p) V).testBit i = true := by
  unfold blackM at *
  rw [maskTo_test, Bool.and_eq_true, beq_iff_eq] at *
  refine ⟨h.1, List.countP_eq_zero.2 fun x hx => List.countP_eq_zero.1 h.2 x (List.mem_filter.1 hx).1⟩
theorem quiet_bit {l : List Nat} {V k i : Nat} (h : (quietM l V k).testBit i = true) : whiteM (withL l i) V = whiteM l V ∧ blackM (withL l i) V = blackM l V := by
  unfold quietM quietB at h
  rw [maskTo_test, Bool.and_eq_true, Bool.and_eq_true, Bool.and_eq_true, beq_iff_eq, beq_iff_eq] at h
  exact h.2.2
theorem bitI_test (x i : Nat) : bitI x i = if x.testBit i then 1 else 0 := by
  unfold bitI
  rw [Nat.testBit_eq_decide_div_mod_eq]
  rcases Nat.mod_two_eq_zero_or_one (x / 2 ^ i) with h | h <;> rw [h] <;> rfl
theorem and_none {x y : Nat} (h : ∀ i, x.testBit i = true → y.testBit i = false) : x &&& y = 0 := by
  apply Nat.eq_of_testBit_eq
  intro i
  rw [Nat.testBit_and, Nat.zero_testBit]
  cases hx : x.testBit i
  · rfl
  · rw [h i hx]; rfl
end Go.Proofs.Ytjbjmoghloabpaa
/- Plain laws of a vote that is truly so, in the walk's own forms. -/
set_option linter.unusedVariables false
set_option linter.unusedSimpArgs false
namespace Go.Proofs.Ytjbjmoghloabpaa
open Go.RowKit Go.Proofs
attribute [local irreducible] Ord.walk
theorem mask_small {f : Nat → Bool} {V : Nat} (hV : V ≤ 9) : maskTo f V < 4611686018427387904 := by
  have h := maskTo_lt f V
  have := Nat.pow_le_pow_right (show 0 < 2 by omega) hV
  have e : (2 : Nat) ^ 9 = 512 := rfl
  omega
/-- What is returned of a vote that has a truth. -/
structure Tf (T : Bn) (wh s0 : Nat) (cn lo hi a c d k q : Nat) (ps : Int) : Prop where
  clash : clashR T = (0, 4)
  count : countR T = ((cn : Int), 0)
  cn1 : 1 ≤ cn
  whites : whitesR T = ((lo : Int), (hi : Int), 0)
  hlo : lo ≤ s0
  hhi : s0 ≤ hi
  known : knownR T = ((a : Int), (c : Int), 0)
  passed : passedR T = (ps, 0)
  tell : tellR T s0 = ((d : Int), (k : Int), 0)
  quiet : quietR T = ((q : Int), 0)
  aw : bits .andNot .i64 (a : Int) (wh : Int) = 0
  cw : bits .and .i64 (c : Int) (wh : Int) = 0
  dw : bits .andNot .i64 (d : Int) (wh : Int) = 0
  kw : bits .and .i64 (k : Int) (wh : Int) = 0
  ad : bits .andNot .i64 (a : Int) (d : Int) = 0
  ck : bits .andNot .i64 (c : Int) (k : Int) = 0
  ps3 : (ps = 0 ∧ (s0 : Int) < T.nd) ∨ ps = 1 ∨ (ps = 2 ∧ T.nd ≤ (s0 : Int))
  qb : bits .and .i64 ((q : Int) / 2 ^ s0) 1 = 0 ∨ (bits .and .i64 ((q : Int) / 2 ^ s0) 1 = 1 ∧ a = d ∧ c = k)
  white : ∀ v : Nat, v < T.V.toNat → ∃ is, whiteR T v = (is, 0) ∧ ((is = 0 ∧ bits .and .i64 ((wh : Int) / 2 ^ v) 1 = 0) ∨ (is = 1 ∧ (bits .and .i64 ((wh : Int) / 2 ^ v) 1 = 0 ∨ bits .and .i64 ((wh : Int) / 2 ^ v) 1 = 1)) ∨ (is = 2 ∧ bits .and .i64 ((wh : Int) / 2 ^ v) 1 = 1))
  same : ∀ v o : Nat, v < T.V.toNat → o < T.V.toNat → ∃ is, sameR T v o = (is, 0) ∧ ((is = 0 ∧ (bitI wh v == bitI wh o) = false) ∨ is = 1 ∨ (is = 2 ∧ (bitI wh v == bitI wh o) = true))
theorem tf {T : Bn} (hv : valid T = true) {wh : Nat} (hm : wh ∈ TL T) : ∃ cn lo hi a c d k q ps, Tf T wh (sz wh) cn lo hi a c d k q ps := by
  have hV := valid_V hv
  have ht : TL T ≠ [] := List.ne_nil_of_mem hm
  have hwh : wh < 256 := TL_lt hv hm
  have hs8 := sz_le hwh
  have hsV : (sz wh : Int) ≤ T.V := by have := sz_V hv hm; omega
  have e1 : toldE T true = 0 := by unfold toldE; simp [hv, ht]
  have e2 : chkE T true = 0 := by unfold chkE; simp [hv]
  have hin : inB (sz wh : Nat) 0 T.V = true := by simp [inB]; omega
  have e3 : toldE T (inB (sz wh : Nat) 0 T.V) = 0 := by rw [hin]; exact e1
  have hmw : wh ∈ withL (TL T) (sz wh : Nat) := List.mem_filter.2 ⟨hm, by simp⟩
  have hwn : withL (TL T) (sz wh : Nat) ≠ [] := List.ne_nil_of_mem hmw
  obtain ⟨l1, _⟩ := loL_prop ht
  obtain ⟨u1, _⟩ := hiL_prop ht
  have hV8 : T.V.toNat ≤ 8 := by omega
  refine ⟨(TL T).length, loL (TL T), hiL (TL T), whiteM (TL T) T.V.toNat, blackM (TL T) T.V.toNat, whiteM (withL (TL T) (sz wh : Nat)) T.V.toNat, blackM (withL (TL T) (sz wh : Nat)) T.V.toNat, quietM (TL T) T.V.toNat (T.V.toNat + 1), gradedI (passN (TL T) T.nd) (TL T).length, ?_⟩
  have ma : whiteM (TL T) T.V.toNat < 4611686018427387904 := mask_small (by omega)
  have mc : blackM (TL T) T.V.toNat < 4611686018427387904 := mask_small (by omega)
  have md : whiteM (withL (TL T) (sz wh : Nat)) T.V.toNat < 4611686018427387904 := mask_small (by omega)
  have mk : blackM (withL (TL T) (sz wh : Nat)) T.V.toNat < 4611686018427387904 := mask_small (by omega)
  have mq : quietM (TL T) T.V.toNat (T.V.toNat + 1) < 4611686018427387904 := mask_small (by omega)
  have hw9 : wh < 4611686018427387904 := by omega
  refine ⟨?_, ?_, ?_, ?_, l1 wh hm, u1 wh hm, ?_, ?_, ?_, ?_, ?_, ?_, ?_, ?_, ?_, ?_, ?_, ?_, ?_, ?_⟩
  · unfold clashR; rw [if_pos e2, if_neg ht]
  · unfold countR; rw [if_pos e2]
  · have := List.length_pos_iff.2 ht; omega
  · unfold whitesR; rw [if_pos e1]
  · unfold knownR; rw [if_pos e1]
  · unfold passedR; rw [if_pos e1]
  · unfold tellR; rw [if_pos e3, if_neg hwn]
  · unfold quietR; rw [if_pos e1]
  · rw [andNot_i64 _ _ ma hw9, (andNot_zero _ _).2 fun i hi => by rw [← hasB_test]; exact white_in hm _ i hi]; rfl
  · rw [and_i64 _ _ mc hw9, and_none fun i hi => by rw [← hasB_test]; exact black_in hm _ i hi]; rfl
  · rw [andNot_i64 _ _ md hw9, (andNot_zero _ _).2 fun i hi => by rw [← hasB_test]; exact white_in hmw _ i hi]; rfl
  · rw [and_i64 _ _ mk hw9, and_none fun i hi => by rw [← hasB_test]; exact black_in hmw _ i hi]; rfl
  · rw [andNot_i64 _ _ ma md, (andNot_zero _ (whiteM (withL (TL T) (sz wh : Nat)) T.V.toNat)).2 fun i hi => white_sub _ i hi]; rfl
  · rw [andNot_i64 _ _ mc mk, (andNot_zero _ (blackM (withL (TL T) (sz wh : Nat)) T.V.toNat)).2 fun i hi => black_sub _ i hi]; rfl
  · unfold passN
    rcases graded_cases ((TL T).countP fun x => decide (T.nd ≤ (sz x : Int))) (TL T).length with h | h | h
    · left; refine ⟨h, ?_⟩
      have := graded_no hm _ h
      simpa using this
    · right; left; exact h
    · right; right; refine ⟨h, ?_⟩
      have := graded_yes hm _ h
      simpa using this
  · rw [bit_i64 _ _ mq, bitI_test]
    cases h : (quietM (TL T) T.V.toNat (T.V.toNat + 1)).testBit (sz wh)
    · left; rfl
    · right
      obtain ⟨h1, h2⟩ := quiet_bit h
      exact ⟨rfl, h1.symm, h2.symm⟩
  · intro v hvv
    have hvb : voterB T v = true := by rw [voterB_of hv]; simp [inB]; omega
    have e4 : toldE T (voterB T v) = 0 := by rw [hvb]; exact e1
    refine ⟨gradedI (cntH (TL T) v) (TL T).length, by unfold whiteR; rw [if_pos e4, Int.toNat_natCast], ?_⟩
    rw [bit_i64 _ _ hw9, bitI_test, ← hasB_test]
    unfold cntH
    rcases graded_cases ((TL T).countP fun x => hasB x v) (TL T).length with h | h | h
    · left; refine ⟨h, ?_⟩
      have := graded_no hm _ h
      rw [this]; rfl
    · right; left; refine ⟨h, ?_⟩; cases hasB wh v <;> simp
    · right; right; refine ⟨h, ?_⟩
      have := graded_yes hm _ h
      rw [this]; rfl
  · intro v o hvv ho
    have hvb : voterB T v = true := by rw [voterB_of hv]; simp [inB]; omega
    have hob : voterB T o = true := by rw [voterB_of hv]; simp [inB]; omega
    have e4 : toldE T (voterB T v && voterB T o) = 0 := by rw [hvb, hob]; exact e1
    refine ⟨gradedI (sameN (TL T) v o) (TL T).length, by unfold sameR; rw [if_pos e4, Int.toNat_natCast, Int.toNat_natCast], ?_⟩
    rw [bitI_eq]
    unfold sameN
    rcases graded_cases ((TL T).countP fun x => hasB x v == hasB x o) (TL T).length with h | h | h
    · left; exact ⟨h, graded_no hm _ h⟩
    · right; left; exact h
    · right; right; exact ⟨h, graded_yes hm _ h⟩
end Go.Proofs.Ytjbjmoghloabpaa
