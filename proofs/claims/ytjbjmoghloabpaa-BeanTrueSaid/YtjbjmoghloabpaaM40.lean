/- Parts of a proof: TruP, TruQ, True. -/
import Derived.Test.YtjbjmoghloabpaaM39
import Derived.Test.YtjbjmoghloabpaaM34
import Derived.Deep.CutRange
/- Plain laws of a vote that is truly so: what is returned of it. -/
set_option linter.unusedVariables false
set_option linter.unusedSimpArgs false
namespace Go.Proofs.Ytjbjmoghloabpaa
open Go.RowKit Go.Proofs
attribute [local irreducible] Ord.walk
theorem maskTo_test (f : Nat → Bool) : ∀ k i, (maskTo f k).testBit i = (decide (i < k) && f i)
  | 0, i => by simp [maskTo]
  | k + 1, i => by
    have ih := maskTo_test f k
    have hlt := maskTo_lt f k
    rw [maskTo_succ]
    cases hf : f k
    · simp only [Bool.false_eq_true, if_false, Nat.add_zero, ih]
      by_cases h : i = k
      · subst h; simp [hf]
      · rw [Bool.eq_iff_iff]; simp; omega
    · simp only [if_true]
      rw [Nat.add_comm, show 2 ^ k + maskTo f k = 2 ^ k * 1 + maskTo f k by omega, Nat.testBit_two_pow_mul_add _ hlt, ih]
      by_cases h : i < k
      · rw [if_pos h]; simp [h]; omega
      · rw [if_neg h]
        by_cases h2 : i = k
        · subst h2; simp [hf]
        · have : Nat.testBit 1 (i - k) = false := by
            rw [Nat.testBit_eq_decide_div_mod_eq, Nat.div_eq_of_lt (Nat.lt_of_lt_of_le (show 1 < 2 ^ 1 by decide) (Nat.pow_le_pow_right (by omega) (by omega)))]; rfl
          rw [this]; simp; omega
theorem TL_mem {b : Bn} (hv : valid b = true) (w : Nat) : w ∈ TL b ↔ w < 2 ^ b.V.toNat ∧ inB (sz w : Nat) b.lo b.hi = true ∧ ∀ x ∈ knOf b, rightK (hasB w) x = true := by
  unfold TL truthsL okB
  rw [List.mem_filter, List.mem_range, okTo_eq hv _ _ _ (by rw [kn_len]; exact Nat.le_refl _)]
  have : selTo (knOf b) (2 ^ b.kn - 1) b.kn = knOf b := by
    have := sel_full (knOf b) []
    unfold sel at this
    rw [List.append_nil, List.append_nil, kn_len] at this
    exact this
  rw [this, Bool.and_eq_true, List.all_eq_true]
theorem cntG_and (vo w : Nat) (hv : vo < 256) : cntG vo (hasB w) = sz (vo &&& w) := by
  have h : vo &&& w ≤ vo := Nat.and_le_left
  rw [sz_eq _ (by omega)]
  unfold cntG
  congr 1
  funext i
  rw [hasB_test, hasB_test, hasB_test, Nat.testBit_and]
theorem abt_sz {s : Nat} {lo hi : Int} (h3 : s ≤ 8) (h0 : 0 ≤ lo) (h1 : lo ≤ hi) : 0 ≤ (abt s 8 lo hi).1 ∧ (abt s 8 lo hi).1 ≤ s ∧ (s : Int) ≤ (abt s 8 lo hi).2 ∧ (abt s 8 lo hi).2 ≤ 8 :=
  abt_in (Int.natCast_nonneg s) (by omega) h0 h1
theorem gOk_parts {V : Int} {g : Int × Int × Int} (hV : V ≤ 8) (h : gOk V g = true) : g.1.toNat < 256 ∧ 0 ≤ g.2.1 ∧ g.2.1 ≤ g.2.2 := by
  unfold gOk at h
  simp only [Bool.and_eq_true, inB, spanB, decide_eq_true_eq] at h
  have := Nat.pow_le_pow_right (show 0 < 2 by omega) (show V.toNat ≤ 8 by omega)
  have e : (2 : Nat) ^ 8 = 256 := rfl
  generalize 2 ^ V.toNat = q at *
  omega
theorem gOk_tr {V : Int} {wh : Nat} {g : Int × Int × Int} (hV : V ≤ 8) (h : gOk V g = true) : gOk V (trG wh g) = true := by
  obtain ⟨h1, h2, h3⟩ := gOk_parts hV h
  have h4 : g.1.toNat &&& wh ≤ g.1.toNat := Nat.and_le_left
  have h5 := abt_sz (sz_le (w := g.1.toNat &&& wh) (by omega)) h2 h3
  unfold trG
  generalize abt (sz (g.1.toNat &&& wh)) 8 g.2.1 g.2.2 = ab at *
  generalize sz (g.1.toNat &&& wh) = s at *
  unfold gOk at *
  rw [Bool.and_eq_true] at *
  refine ⟨h.1, ?_⟩
  simp only [spanB, decide_eq_true_eq]; omega
theorem right_tr {V : Int} {wh : Nat} {g : Int × Int × Int} (hV : V ≤ 8) (h : gOk V g = true) : rightK (hasB wh) (gkn (trG wh g)) = true := by
  obtain ⟨h1, h2, h3⟩ := gOk_parts hV h
  have h4 : g.1.toNat &&& wh ≤ g.1.toNat := Nat.and_le_left
  have h5 := abt_sz (sz_le (w := g.1.toNat &&& wh) (by omega)) h2 h3
  have e : rightK (hasB wh) (gkn (trG wh g)) = inB (cntG g.1.toNat (hasB wh) : Nat) (abt (sz (g.1.toNat &&& wh)) 8 g.2.1 g.2.2).1 (abt (sz (g.1.toNat &&& wh)) 8 g.2.1 g.2.2).2 := rfl
  rw [e, cntG_and _ _ h1]
  generalize abt (sz (g.1.toNat &&& wh)) 8 g.2.1 g.2.2 = ab at *
  generalize sz (g.1.toNat &&& wh) = s at *
  simp only [inB, decide_eq_true_eq]; omega
section
variable {b : Bn} (hv : valid b = true) {wh : Nat} (hw : wh < 2 ^ b.V.toNat)
include hv hw
theorem wh_lt : wh < 256 := by
  have hV := valid_V hv
  have := Nat.pow_le_pow_right (show 0 < 2 by omega) (show b.V.toNat ≤ 8 by omega)
  have e : (2 : Nat) ^ 8 = 256 := rfl
  omega
theorem wh_sz : (sz wh : Int) ≤ b.V := by
  have hV := valid_V hv
  have := pop_le_k (show b.V.toNat ≤ 8 by omega) hw
  rw [sz_pop _ (wh_lt hv hw)]; omega
theorem truly_valid : valid (trulyB b wh) = true := by
  have hV := valid_V hv
  have hnd := valid_nd hv
  have hsp := valid_wh hv
  have hln := valid_len hv
  have h0 := abt_in (most := b.V) (Int.natCast_nonneg (sz wh)) (wh_sz hv hw) hsp.1 hsp.2.1
  unfold valid headOk
  simp only [Bool.and_eq_true, List.all_eq_true, decide_eq_true_eq]
  refine ⟨⟨⟨⟨⟨⟨?_, ?_⟩, ?_⟩, ?_⟩, ?_⟩, ?_⟩, ?_⟩
  · show inB b.V 1 8 = true; simp [inB]; omega
  · show inB b.nd 0 b.V = true; simp [inB]; omega
  · show spanB (abt (sz wh) b.V b.lo b.hi).1 (abt (sz wh) b.V b.lo b.hi).2 b.V = true; simp [spanB]; omega
  · show (b.gs.map (trG wh)).length ≤ 4; rw [List.length_map]; omega
  · show (b.ps.map (trP wh)).length ≤ 4; rw [List.length_map]; omega
  · intro g hg
    obtain ⟨g, hg2, rfl⟩ := List.mem_map.1 (show g ∈ b.gs.map (trG wh) from hg)
    have : b.gs.all (gOk b.V) = true := by
      have h := hv
      simp only [valid, Bool.and_eq_true] at h; exact h.1.2
    exact gOk_tr hV.2 (List.all_eq_true.1 this g hg2)
  · intro p hp
    obtain ⟨p, hp2, rfl⟩ := List.mem_map.1 (show p ∈ b.ps.map (trP wh) from hp)
    have : b.ps.all (pOk b.V) = true := by
      have h := hv
      simp only [valid, Bool.and_eq_true] at h; exact h.2
    exact List.all_eq_true.1 this p hp2
theorem truly_mem : wh ∈ TL (trulyB b wh) := by
  have hV := valid_V hv
  have hsp := valid_wh hv
  rw [TL_mem (truly_valid hv hw)]
  have h0 := abt_in (most := b.V) (Int.natCast_nonneg (sz wh)) (wh_sz hv hw) hsp.1 hsp.2.1
  refine ⟨hw, ?_, ?_⟩
  · show inB (sz wh : Nat) (abt (sz wh) b.V b.lo b.hi).1 (abt (sz wh) b.V b.lo b.hi).2 = true
    simp only [inB, decide_eq_true_eq]; omega
  · intro x hx
    simp only [knOf, List.mem_append, List.mem_map] at hx
    rcases hx with ⟨g, hg, rfl⟩ | ⟨p, hp, rfl⟩
    · obtain ⟨g, hg2, rfl⟩ := List.mem_map.1 (show g ∈ b.gs.map (trG wh) from hg)
      have : b.gs.all (gOk b.V) = true := by
        have h := hv
        simp only [valid, Bool.and_eq_true] at h; exact h.1.2
      exact right_tr hV.2 (List.all_eq_true.1 this g hg2)
    · obtain ⟨p, hp2, rfl⟩ := List.mem_map.1 (show p ∈ b.ps.map (trP wh) from hp)
      show ((hasB wh p.1.toNat == hasB wh p.2.1.toNat) == (hasB wh p.1.toNat == hasB wh p.2.1.toNat)) = true
      simp
end
/- What a truth tells of what is returned. -/
section
variable {l : List Nat} {wh : Nat} (hm : wh ∈ l)
include hm
theorem white_in (V i : Nat) (h : (whiteM l V).testBit i = true) : hasB wh i = true := by
  unfold whiteM at h
  rw [maskTo_test, Bool.and_eq_true, beq_iff_eq] at h
  exact List.countP_eq_length.1 h.2 wh hm
theorem black_in (V i : Nat) (h : (blackM l V).testBit i = true) : hasB wh i = false := by
  unfold blackM at h
  rw [maskTo_test, Bool.and_eq_true, beq_iff_eq] at h
  have := List.countP_eq_zero.1 h.2 wh hm
  simpa using this
theorem graded_yes (p : Nat → Bool) (h : gradedI (l.countP p) l.length = 2) : p wh = true := by
  unfold gradedI at h
  split at h
  · rename_i e; exact List.countP_eq_length.1 e wh hm
  · split at h <;> omega
theorem graded_no (p : Nat → Bool) (h : gradedI (l.countP p) l.length = 0) : p wh = false := by
  unfold gradedI at h
  split at h
  · omega
  · split at h
    · rename_i e; have := List.countP_eq_zero.1 e wh hm; simpa using this
    · omega
end
theorem graded_cases (n all : Nat) : gradedI n all = 0 ∨ gradedI n all = 1 ∨ gradedI n all = 2 := by
  unfold gradedI; split
  · omega
  · split <;> omega
theorem white_sub {l : List Nat} {p : Nat → Bool} (V i : Nat) (h : (whiteM l V).testBit i = true) : (whiteM (l.filter p) V).testBit i = true := by
  unfold whiteM at *
  rw [maskTo_test, Bool.and_eq_true, beq_iff_eq] at *
  refine ⟨h.1, List.countP_eq_length.2 fun x hx => List.countP_eq_length.1 h.2 x (List.mem_filter.1 hx).1⟩
theorem black_sub {l : List Nat} {p : Nat → Bool} (V i : Nat) (h : (blackM l V).testBit i = true) : (blackM (l.filter p) V).testBit i = true := by
  unfold blackM at *
  rw [maskTo_test, Bool.and_eq_true, beq_iff_eq] at *
  refine ⟨h.1, List.countP_eq_zero.2 fun x hx => List.countP_eq_zero.1 h.2 x (List.mem_filter.1 hx).1⟩
theorem quiet_bit {l : List Nat} {V k i : Nat} (h : (quietM l V k).testBit i = true) : whiteM (withL l i) V = whiteM l V ∧ blackM (withL l i) V = blackM l V := by
  unfold quietM quietB at h
  rw [maskTo_test, Bool.and_eq_true, Bool.and_eq_true, Bool.and_eq_true, beq_iff_eq, beq_iff_eq] at h
  exact h.2.2
theorem bitI_test (x i : Nat) : bitI x i = if x.testBit i then 1 else 0 := by
  unfold bitI
  rw [Nat.testBit_eq_decide_div_mod_eq]
  rcases Nat.mod_two_eq_zero_or_one (x / 2 ^ i) with h | h <;> rw [h] <;> rfl
theorem and_none {x y : Nat} (h : ∀ i, x.testBit i = true → y.testBit i = false) : x &&& y = 0 := by
  apply Nat.eq_of_testBit_eq
  intro i
  rw [Nat.testBit_and, Nat.zero_testBit]
  cases hx : x.testBit i
  · rfl
  · rw [h i hx]; rfl
end Go.Proofs.Ytjbjmoghloabpaa
/- Plain laws of a vote that is truly so, in the walk's own forms. -/
set_option linter.unusedVariables false
set_option linter.unusedSimpArgs false
namespace Go.Proofs.Ytjbjmoghloabpaa
open Go.RowKit Go.Proofs
attribute [local irreducible] Ord.walk
theorem mask_small {f : Nat → Bool} {V : Nat} (hV : V ≤ 9) : maskTo f V < 4611686018427387904 := by
  have h := maskTo_lt f V
  have := Nat.pow_le_pow_right (show 0 < 2 by omega) hV
  have e : (2 : Nat) ^ 9 = 512 := rfl
  omega
/-- What is returned of a vote that has a truth. -/
structure Tf (T : Bn) (wh s0 : Nat) (cn lo hi a c d k q : Nat) (ps : Int) : Prop where
  clash : clashR T = (0, 4)
  count : countR T = ((cn : Int), 0)
  cn1 : 1 ≤ cn
  whites : whitesR T = ((lo : Int), (hi : Int), 0)
  hlo : lo ≤ s0
  hhi : s0 ≤ hi
  known : knownR T = ((a : Int), (c : Int), 0)
  passed : passedR T = (ps, 0)
  tell : tellR T s0 = ((d : Int), (k : Int), 0)
  quiet : quietR T = ((q : Int), 0)
  aw : bits .andNot .i64 (a : Int) (wh : Int) = 0
  cw : bits .and .i64 (c : Int) (wh : Int) = 0
  dw : bits .andNot .i64 (d : Int) (wh : Int) = 0
  kw : bits .and .i64 (k : Int) (wh : Int) = 0
  ad : bits .andNot .i64 (a : Int) (d : Int) = 0
  ck : bits .andNot .i64 (c : Int) (k : Int) = 0
  ps3 : (ps = 0 ∧ (s0 : Int) < T.nd) ∨ ps = 1 ∨ (ps = 2 ∧ T.nd ≤ (s0 : Int))
  qb : bits .and .i64 ((q : Int) / 2 ^ s0) 1 = 0 ∨ (bits .and .i64 ((q : Int) / 2 ^ s0) 1 = 1 ∧ a = d ∧ c = k)
  white : ∀ v : Nat, v < T.V.toNat → ∃ is, whiteR T v = (is, 0) ∧ ((is = 0 ∧ bits .and .i64 ((wh : Int) / 2 ^ v) 1 = 0) ∨ (is = 1 ∧ (bits .and .i64 ((wh : Int) / 2 ^ v) 1 = 0 ∨ bits .and .i64 ((wh : Int) / 2 ^ v) 1 = 1)) ∨ (is = 2 ∧ bits .and .i64 ((wh : Int) / 2 ^ v) 1 = 1))
  same : ∀ v o : Nat, v < T.V.toNat → o < T.V.toNat → ∃ is, sameR T v o = (is, 0) ∧ ((is = 0 ∧ (bitI wh v == bitI wh o) = false) ∨ is = 1 ∨ (is = 2 ∧ (bitI wh v == bitI wh o) = true))
theorem tf {T : Bn} (hv : valid T = true) {wh : Nat} (hm : wh ∈ TL T) : ∃ cn lo hi a c d k q ps, Tf T wh (sz wh) cn lo hi a c d k q ps := by
  have hV := valid_V hv
  have ht : TL T ≠ [] := List.ne_nil_of_mem hm
  have hwh : wh < 256 := TL_lt hv hm
  have hs8 := sz_le hwh
  have hsV : (sz wh : Int) ≤ T.V := by have := sz_V hv hm; omega
  have e1 : toldE T true = 0 := by unfold toldE; simp [hv, ht]
  have e2 : chkE T true = 0 := by unfold chkE; simp [hv]
  have hin : inB (sz wh : Nat) 0 T.V = true := by simp [inB]; omega
  have e3 : toldE T (inB (sz wh : Nat) 0 T.V) = 0 := by rw [hin]; exact e1
  have hmw : wh ∈ withL (TL T) (sz wh : Nat) := List.mem_filter.2 ⟨hm, by simp⟩
  have hwn : withL (TL T) (sz wh : Nat) ≠ [] := List.ne_nil_of_mem hmw
  obtain ⟨l1, _⟩ := loL_prop ht
  obtain ⟨u1, _⟩ := hiL_prop ht
  have hV8 : T.V.toNat ≤ 8 := by omega
  refine ⟨(TL T).length, loL (TL T), hiL (TL T), whiteM (TL T) T.V.toNat, blackM (TL T) T.V.toNat, whiteM (withL (TL T) (sz wh : Nat)) T.V.toNat, blackM (withL (TL T) (sz wh : Nat)) T.V.toNat, quietM (TL T) T.V.toNat (T.V.toNat + 1), gradedI (passN (TL T) T.nd) (TL T).length, ?_⟩
  have ma : whiteM (TL T) T.V.toNat < 4611686018427387904 := mask_small (by omega)
  have mc : blackM (TL T) T.V.toNat < 4611686018427387904 := mask_small (by omega)
  have md : whiteM (withL (TL T) (sz wh : Nat)) T.V.toNat < 4611686018427387904 := mask_small (by omega)
  have mk : blackM (withL (TL T) (sz wh : Nat)) T.V.toNat < 4611686018427387904 := mask_small (by omega)
  have mq : quietM (TL T) T.V.toNat (T.V.toNat + 1) < 4611686018427387904 := mask_small (by omega)
  have hw9 : wh < 4611686018427387904 := by omega
  refine ⟨?_, ?_, ?_, ?_, l1 wh hm, u1 wh hm, ?_, ?_, ?_, ?_, ?_, ?_, ?_, ?_, ?_, ?_, ?_, ?_, ?_, ?_⟩
  · unfold clashR; rw [if_pos e2, if_neg ht]
  · unfold countR; rw [if_pos e2]
  · have := List.length_pos_iff.2 ht; omega
  · unfold whitesR; rw [if_pos e1]
  · unfold knownR; rw [if_pos e1]
  · unfold passedR; rw [if_pos e1]
  · unfold tellR; rw [if_pos e3, if_neg hwn]
  · unfold quietR; rw [if_pos e1]
  · rw [andNot_i64 _ _ ma hw9, (andNot_zero _ _).2 fun i hi => by rw [← hasB_test]; exact white_in hm _ i hi]; rfl
  · rw [and_i64 _ _ mc hw9, and_none fun i hi => by rw [← hasB_test]; exact black_in hm _ i hi]; rfl
  · rw [andNot_i64 _ _ md hw9, (andNot_zero _ _).2 fun i hi => by rw [← hasB_test]; exact white_in hmw _ i hi]; rfl
  · rw [and_i64 _ _ mk hw9, and_none fun i hi => by rw [← hasB_test]; exact black_in hmw _ i hi]; rfl
  · rw [andNot_i64 _ _ ma md, (andNot_zero _ (whiteM (withL (TL T) (sz wh : Nat)) T.V.toNat)).2 fun i hi => white_sub _ i hi]; rfl
  · rw [andNot_i64 _ _ mc mk, (andNot_zero _ (blackM (withL (TL T) (sz wh : Nat)) T.V.toNat)).2 fun i hi => black_sub _ i hi]; rfl
  · unfold passN
    rcases graded_cases ((TL T).countP fun x => decide (T.nd ≤ (sz x : Int))) (TL T).length with h | h | h
    · left; refine ⟨h, ?_⟩
      have := graded_no hm _ h
      simpa using this
    · right; left; exact h
    · right; right; refine ⟨h, ?_⟩
      have := graded_yes hm _ h
      simpa using this
  · rw [bit_i64 _ _ mq, bitI_test]
    cases h : (quietM (TL T) T.V.toNat (T.V.toNat + 1)).testBit (sz wh)
    · left; rfl
    · right
      obtain ⟨h1, h2⟩ := quiet_bit h
      exact ⟨rfl, h1.symm, h2.symm⟩
  · intro v hvv
    have hvb : voterB T v = true := by rw [voterB_of hv]; simp [inB]; omega
    have e4 : toldE T (voterB T v) = 0 := by rw [hvb]; exact e1
    refine ⟨gradedI (cntH (TL T) v) (TL T).length, by unfold whiteR; rw [if_pos e4, Int.toNat_natCast], ?_⟩
    rw [bit_i64 _ _ hw9, bitI_test, ← hasB_test]
    unfold cntH
    rcases graded_cases ((TL T).countP fun x => hasB x v) (TL T).length with h | h | h
    · left; refine ⟨h, ?_⟩
      have := graded_no hm _ h
      rw [this]; rfl
    · right; left; refine ⟨h, ?_⟩; cases hasB wh v <;> simp
    · right; right; refine ⟨h, ?_⟩
      have := graded_yes hm _ h
      rw [this]; rfl
  · intro v o hvv ho
    have hvb : voterB T v = true := by rw [voterB_of hv]; simp [inB]; omega
    have hob : voterB T o = true := by rw [voterB_of hv]; simp [inB]; omega
    have e4 : toldE T (voterB T v && voterB T o) = 0 := by rw [hvb, hob]; exact e1
    refine ⟨gradedI (sameN (TL T) v o) (TL T).length, by unfold sameR; rw [if_pos e4, Int.toNat_natCast, Int.toNat_natCast], ?_⟩
    rw [bitI_eq]
    unfold sameN
    rcases graded_cases ((TL T).countP fun x => hasB x v == hasB x o) (TL T).length with h | h | h
    · left; exact ⟨h, graded_no hm _ h⟩
    · right; left; exact h
    · right; right; exact ⟨h, graded_yes hm _ h⟩
end Go.Proofs.Ytjbjmoghloabpaa
/- The law BeanTrue walked. -/
set_option linter.unusedVariables false
set_option linter.unusedSimpArgs false
namespace Go.Proofs.Ytjbjmoghloabpaa
open Go.RowKit Go.Proofs
attribute [local irreducible] Ord.walk
set_option maxHeartbeats 40000000 in
set_option maxRecDepth 100000 in
theorem w_True_main (b : Bn) (ga : Option Addr) (gc : Nat) (pa : Option Addr) (pc : Nat) (n1 : Nat) (hn1 : n1 < 256) (w : World) (hg : GsAt w ga b.gs) (hp : PsAt w pa b.ps) (hv : valid b = true) :
    Calls Try.prog 6 #[bv b ga gc pa pc, .int .u8 n1] w (Gives (.bool true) w) := by
  have hln := valid_len hv
  have hV := valid_V hv
  have HL : Hid (∀ W, Calls Try.prog 12 #[bv b ga gc pa pc] W (Gives (.bool false) W)) := fun W => by
    have := l_long b ga gc pa pc W (by unfold maxLen; omega) (by unfold maxLen; omega)
    rwa [show longB b = false by unfold longB; exact decide_eq_false (by omega)] at this
  have HBn : Hid (∀ W, Below w.heap.size w W → Calls Try.prog 36 #[bv b ga gc pa pc] W (Gives (.bool true) W)) := fun W hb => by
    have := r_bean (hg.below hb) (hp.below hb) (ga := ga) (gc := gc) (pa := pa) (pc := pc) (by omega) (by omega)
    rwa [hv] at this
  obtain ⟨V, hVe⟩ : ∃ V : Nat, b.V = V := ⟨b.V.toNat, by omega⟩
  have hV8 : V ≤ 8 := by omega
  have hpow : 2 ^ V ≤ 256 := by have := Nat.pow_le_pow_right (show 0 < 2 by omega) hV8; have e : (2 : Nat) ^ 8 = 256 := rfl; omega
  have hpow1 : 0 < 2 ^ V := Nat.two_pow_pos V
  have hn1i : (n1 : Int) < 256 := by omega
  obtain ⟨wh, hwhe⟩ : ∃ wh, n1 &&& (2 ^ V - 1) = wh := ⟨_, rfl⟩
  have hVn : b.V.toNat = V := by omega
  have hwlt : wh < 2 ^ b.V.toNat := by rw [← hwhe, hVn]; exact Nat.and_lt_two_pow _ (by omega)
  have hwr : bits .and .i64 (n1 : Int) (wrap64 (wrap64 (2 ^ b.V.toNat) - 1)) = (wh : Int) := by
    have e1 : ((2 : Int) ^ b.V.toNat) = ((2 ^ V : Nat) : Int) := by rw [hVn]; push_cast; rfl
    rw [e1, ← hwhe]
    clear e1 hwhe
    generalize 2 ^ V = P at *
    rw [IntWalk.wrap64_in (P : Int) (by omega), IntWalk.wrap64_in ((P : Int) - 1) (by omega), show (P : Int) - 1 = ((P - 1 : Nat) : Int) by omega]
    exact and_i64 _ _ (by omega) (by omega)
  have hwh8 := wh_lt hv hwlt
  have HTr := Lib.hid (fun W (hb : Below w.heap.size w W) => l_truly b ga gc pa pc wh W (hg.below hb) (hp.below hb) hv hwh8)
  have HSz := Lib.hid (l_size wh (by omega))
  have hs08 := sz_le hwh8
  have hTv := truly_valid hv hwlt
  have hTl := valid_len hTv
  obtain ⟨cn, lo2, hi2, a, c, d, k, q, ps, HF0⟩ := tf hTv (truly_mem hv hwlt)
  have HF := Lib.hid HF0
  have hTV : (trulyB b wh).V = b.V := rfl
  have hTn : (trulyB b wh).nd = b.nd := rfl
  clear HF0 hwlt hwhe hVn
  generalize sz wh = s0 at *
  generalize trulyB b wh = T at *
  have HTV := Lib.hid hTV
  have HTn := Lib.hid hTn
  clear hTV hTn hTv
  have HV := Lib.hid hVe
  have HP := Lib.hid hpow
  have HP1 := Lib.hid hpow1
  clear hVe hpow hpow1 hln
  unfold bv at *
  go_enter Try.func6, Try.ntmps6
  go_wp2_with (first
    | (go_at_call 12; refine (HL.out _).mono ?_; rintro e w1 ⟨rfl, hb1⟩; refine at_stop ?_))
  unfold Stop
  have bb := (Blk.new w #[.int .i64 b.V, .int .i64 b.nd, .int .i64 b.lo, .int .i64 b.hi, .slice ga b.gs.length gc, .slice pa b.ps.length pc] 27).below hb1 (by simp)
  have hB := ((Below.refl w.heap.size w).alloc (Nat.le_refl _) _).trans (hb1.mono (by simp))
  clear hb1
  have rb := bb.cell
  go_wp2_with (first
    | (go_at_call 36; refine (HBn.out _ hB).mono ?_; rintro e w2 ⟨rfl, hb2⟩; refine at_stop ?_))
  unfold Stop
  clear rb
  replace bb := bb.below hb2 bb.lt
  replace hB := hB.trans (hb2.mono hB.size)
  clear hb2
  have rb := bb.cell
  go_wp2_with (first
    | (go_at_call 37; refine (HTr.out _ hB).mono ?_; rintro e w3 ⟨_, rfl, hVote, hb3⟩; refine at_stop ?_)
    | (refine wpList_load_blk 27 (.tmp 2) agg_bean rfl rfl rfl bb rfl ?_))
  unfold Stop
  clear rb
  replace bb := bb.below hb3 bb.lt
  replace hB := hB.trans (hb3.mono hB.size)
  obtain ⟨ga2, gc2, pa2, pc2, rfl, hg2, hp2⟩ := hVote.bv
  clear hVote hb3 HL HBn HTr
  have I1 : Hid (∀ W, Below w3.heap.size w3 W → Calls Try.prog 30 #[bv T ga2 gc2 pa2 pc2] W (Gives2 (.int .i64 0) (.int .i64 4) W)) := fun W hb => by
    have := bb_Clash T ga2 gc2 pa2 pc2 W (hg2.below hb) (hp2.below hb) (by omega) (by omega); rwa [HF.out.clash] at this
  have I2 : Hid (∀ W, Below w3.heap.size w3 W → Calls Try.prog 24 #[bv T ga2 gc2 pa2 pc2] W (Gives2 (.int .i64 cn) (.int .i64 0) W)) := fun W hb => by
    have := bb_Count T ga2 gc2 pa2 pc2 W (hg2.below hb) (hp2.below hb) (by omega) (by omega); rwa [HF.out.count] at this
  have I3 : Hid (∀ W, Below w3.heap.size w3 W → Calls Try.prog 14 #[bv T ga2 gc2 pa2 pc2] W (Gives2 (.agg #[.int .i64 lo2, .int .i64 hi2]) (.int .i64 0) W)) := fun W hb => by
    have := bb_Whites T ga2 gc2 pa2 pc2 W (hg2.below hb) (hp2.below hb) (by omega) (by omega); rwa [HF.out.whites] at this
  have I4 : Hid (∀ W, Below w3.heap.size w3 W → Calls Try.prog 18 #[bv T ga2 gc2 pa2 pc2] W (Gives3 (.int .i64 a) (.int .i64 c) (.int .i64 0) W)) := fun W hb => by
    have := bb_Known T ga2 gc2 pa2 pc2 W (hg2.below hb) (hp2.below hb) (by omega) (by omega); rwa [HF.out.known] at this
  have I5 : Hid (∀ W, Below w3.heap.size w3 W → Calls Try.prog 20 #[bv T ga2 gc2 pa2 pc2] W (Gives2 (.int .i64 ps) (.int .i64 0) W)) := fun W hb => by
    have := bb_Passed T ga2 gc2 pa2 pc2 W (hg2.below hb) (hp2.below hb) (by omega) (by omega); rwa [HF.out.passed] at this
  have I6 : Hid (∀ W, Below w3.heap.size w3 W → Calls Try.prog 26 #[bv T ga2 gc2 pa2 pc2, .int .i64 s0] W (Gives3 (.int .i64 d) (.int .i64 k) (.int .i64 0) W)) := fun W hb => by
    have := bb_Tell T ga2 gc2 pa2 pc2 W (hg2.below hb) (hp2.below hb) (by omega) (by omega) s0; rwa [HF.out.tell] at this
  have I7 : Hid (∀ W, Below w3.heap.size w3 W → Calls Try.prog 28 #[bv T ga2 gc2 pa2 pc2] W (Gives2 (.int .i64 q) (.int .i64 0) W)) := fun W hb => by
    have := bb_Quiet T ga2 gc2 pa2 pc2 W (hg2.below hb) (hp2.below hb) (by omega) (by omega); rwa [HF.out.quiet] at this
  have I8 : Hid (∀ W (v : Nat), Below w3.heap.size w3 W → Calls Try.prog 16 #[bv T ga2 gc2 pa2 pc2, .int .i64 v] W (Gives2 (.int .i64 (whiteR T v).1) (.int .i64 (whiteR T v).2) W)) := fun W v hb => 
    bb_White T ga2 gc2 pa2 pc2 W (hg2.below hb) (hp2.below hb) (by omega) (by omega) v
  have I9 : Hid (∀ W (v o : Nat), Below w3.heap.size w3 W → Calls Try.prog 22 #[bv T ga2 gc2 pa2 pc2, .int .i64 v, .int .i64 o] W (Gives2 (.int .i64 (sameR T v o).1) (.int .i64 (sameR T v o).2) W)) := fun W v o hb => 
    bb_Same T ga2 gc2 pa2 pc2 W (hg2.below hb) (hp2.below hb) (by omega) (by omega) v o
  unfold bv at *
  generalize T.gs.length = gl2 at *
  generalize T.ps.length = pl2 at *
  clear hg2 hp2
  go_wp2_with (first
    | (refine wpList_store_blk 27 (.tmp 6) (.tmp 48) agg_bean rfl rfl rfl rfl (Blk.new _ _ _) rfl rfl (by simp [Value.oneCell']) ?_; intro w4 h4; refine at_stop ?_))
  unfold Stop
  have b6 := h4.blk
  replace bb := h4.other (bb.alloc _) (by have := bb.lt; omega)
  have hB3 : Below w3.heap.size w3 w4 := h4.below ((Below.refl _ _).alloc (Nat.le_refl _) _) (Nat.le_refl _)
  replace hB := h4.below (hB.alloc hB.size _) hB.size
  generalize hp6 : w3.heap.size = p6 at *
  clear h4
  go_wp2_with (first
    | (refine wpList_load_blk 27 (.tmp 6) agg_bean rfl rfl rfl b6 rfl ?_)
    | (go_at_call 38; refine (HSz.out _).mono ?_; rintro e w' ⟨rfl, rfl⟩)
    | (go_at_call 30; refine (I1.out _ hB3).mono ?_; rintro e w5 ⟨rfl, hb5⟩; replace bb := bb.below hb5 bb.lt; replace b6 := b6.below hb5 b6.lt; replace hB := hB.trans (hb5.mono hB.size); replace hB3 := hB3.trans (hb5.mono (by have := hB3.size; omega)); clear hb5)
    | (go_at_call 24; refine (I2.out _ hB3).mono ?_; rintro e w5 ⟨rfl, hb5⟩; replace bb := bb.below hb5 bb.lt; replace b6 := b6.below hb5 b6.lt; replace hB := hB.trans (hb5.mono hB.size); replace hB3 := hB3.trans (hb5.mono (by have := hB3.size; omega)); clear hb5)
    | (go_at_call 14; refine (I3.out _ hB3).mono ?_; rintro e w5 ⟨rfl, hb5⟩; replace bb := bb.below hb5 bb.lt; replace b6 := b6.below hb5 b6.lt; replace hB := hB.trans (hb5.mono hB.size); replace hB3 := hB3.trans (hb5.mono (by have := hB3.size; omega)); clear hb5; refine at_stop ?_))
  unfold Stop
  go_wp2_with (first
    | (refine wpList_store_blk 23 (.tmp 12) (.tmp 64) agg_span rfl rfl rfl rfl (Blk.new _ _ _) rfl rfl (by simp [Value.oneCell']) ?_; intro w6 h6; refine at_stop ?_))
  unfold Stop
  have b12 := h6.blk
  replace bb := h6.other (bb.alloc _) (by have := bb.lt; omega)
  replace b6 := h6.other (b6.alloc _) (by have := b6.lt; omega)
  replace hB := h6.below (hB.alloc hB.size _) hB.size
  replace hB3 := h6.below (hB3.alloc (by have := hB3.size; omega) _) (by have := hB3.size; omega)
  generalize hp12 : w5.heap.size = p12 at *
  clear h6 I1 I2 I3
  go_wp2_with (first
    | (refine wpList_load_blk 27 (.tmp 6) agg_bean rfl rfl rfl b6 rfl ?_)
    | (go_at_call 18; refine (I4.out _ hB3).mono ?_; rintro e w5 ⟨rfl, hb5⟩; replace b12 := b12.below hb5 b12.lt; replace bb := bb.below hb5 bb.lt; replace b6 := b6.below hb5 b6.lt; replace hB := hB.trans (hb5.mono hB.size); replace hB3 := hB3.trans (hb5.mono (by have := hB3.size; omega)); clear hb5)
    | (go_at_call 20; refine (I5.out _ hB3).mono ?_; rintro e w5 ⟨rfl, hb5⟩; replace b12 := b12.below hb5 b12.lt; replace bb := bb.below hb5 bb.lt; replace b6 := b6.below hb5 b6.lt; replace hB := hB.trans (hb5.mono hB.size); replace hB3 := hB3.trans (hb5.mono (by have := hB3.size; omega)); clear hb5)
    | (go_at_call 26; refine (I6.out _ hB3).mono ?_; rintro e w5 ⟨rfl, hb5⟩; replace b12 := b12.below hb5 b12.lt; replace bb := bb.below hb5 bb.lt; replace b6 := b6.below hb5 b6.lt; replace hB := hB.trans (hb5.mono hB.size); replace hB3 := hB3.trans (hb5.mono (by have := hB3.size; omega)); clear hb5)
    | (go_at_call 28; refine (I7.out _ hB3).mono ?_; rintro e w5 ⟨rfl, hb5⟩; replace b12 := b12.below hb5 b12.lt; replace bb := bb.below hb5 bb.lt; replace b6 := b6.below hb5 b6.lt; replace hB := hB.trans (hb5.mono hB.size); replace hB3 := hB3.trans (hb5.mono (by have := hB3.size; omega)); clear hb5; refine at_stop ?_))
  unfold Stop
  have r12 := b12.cell
  have rb := bb.cell
  have hcn := HF.out.cn1
  have hlo := HF.out.hlo
  have hhi := HF.out.hhi
  clear I4 I5 I6 I7
  go_upto_region 15 with fail
  go_cut [201] from 89 to 201 (fun p wx => p = .bool false ∧ wx = w5)
  case first =>
    have haw := HF.out.aw
    have hcw := HF.out.cw
    have hdw := HF.out.dw
    have hkw := HF.out.kw
    have had := HF.out.ad
    have hck := HF.out.ck
    have hps := HF.out.ps3
    have hqb := HF.out.qb
    rw [HTn.out] at hps
    clear HF hg hp hv hV hn1i hwr hwh8 HSz HTV HTn HP HP1 bb b6 b12 hB hB3 hp6 hp12 r12 I8 I9 hcn hlo hhi hTl hn1 hV8
    rcases hps with ⟨rfl, hp0⟩ | rfl | ⟨rfl, hp2⟩ <;> rcases hqb with hq | ⟨hq, rfl, rfl⟩
    all_goals go_wp2_with fail
    all_goals go_meet
    all_goals first
      | exact ⟨rfl, rfl⟩
      | exact ⟨congrArg Value.bool (decide_eq_false (by omega)), rfl⟩
      | (exfalso; simp_all; done)
  case rest =>
    obtain ⟨rfl, rfl⟩ := hcut
    have HW := Lib.hid HF.out.white
    have HSm := Lib.hid HF.out.same
    rw [HTV.out] at HW HSm
    have hVn : b.V.toNat = V := by have := HV.out; omega
    rw [hVn] at HW HSm
    clear HF hg hp hv hVn r12 b12 hcn hlo hhi hwr
    have hs3 := hB3.size
    rw [hp6] at hs3
    have hA := Lib.hid l_alive
    go_wp2_with fail
    go_loopw [204] (fun i wr => ∃ v : Nat, v ≤ V ∧ i = .int .i64 v ∧ Below wc.heap.size wc wr) (fun i _ => V - (intOf i).toNat)
    case atStart => exact ⟨0, by omega, rfl, Below.refl _ _⟩
    case round =>
      obtain ⟨v, hv, rfl, hBr⟩ := hrel
      by_cases hlt : v < V
      · have hlti : (v : Int) < b.V := by have := HV.out; omega
        obtain ⟨is, he, hcase⟩ := HW.out v hlt
        have b6r := b6.below hBr b6.lt
        have hB3r : Below p6 w3 wr := hB3.trans (hBr.mono hs3)
        have I8v := Lib.hid (fun W hb => I8.out W v hb)
        rw [he] at I8v
        have hsr := hBr.size
        simp only at I8v
        generalize wc = wk at *
        go_wp2_with (first
          | (refine wpList_load_blk 27 (.tmp 6) agg_bean rfl rfl rfl b6r rfl ?_)
          | (go_at_call 16; refine (I8v.out _ hB3r).mono ?_; rintro e w6 ⟨rfl, hb6⟩; refine at_stop ?_))
        unfold Stop
        have b66 := b6r.below hb6 b6r.lt
        have hB36 : Below p6 w3 w6 := hB3r.trans (hb6.mono (by omega))
        have hB6 : Below wk.heap.size wk w6 := hBr.trans (hb6.mono hsr)
        have hs6 := hB6.size
        clear b6r hB3r hb6 I8v hBr hsr
        go_upto_region 21 with fail
        go_cut [236] from 213 to 236 (fun p wx => p = .bool false ∧ wx = w6)
        case first =>
          clear I8 I9 HW HSm HSz HTV HTn HV HP HP1 bb hB hB3 hp6 b6 b66 hB36 hB6 hA he
          rcases hcase with ⟨rfl, hc⟩ | ⟨rfl, hc | hc⟩ | ⟨rfl, hc⟩
          all_goals go_wp2_with fail
          all_goals go_meet
          all_goals exact ⟨rfl, rfl⟩
        case rest =>
          obtain ⟨rfl, rfl⟩ := hcut
          clear hcase he
          generalize wc = wm at *
          go_wp2_with fail
          go_loopw [238] (fun i wr => ∃ o : Nat, o ≤ v ∧ i = .int .i64 o ∧ Below wm.heap.size wm wr) (fun i _ => v - (intOf i).toNat)
          case atStart => exact ⟨0, by omega, rfl, Below.refl _ _⟩
          case round =>
            obtain ⟨o, ho, rfl, hBo⟩ := hrel
            by_cases hot : o < v
            · have hoti : (o : Int) < (v : Int) := by omega
              obtain ⟨sm, hsme, hscase⟩ := HSm.out v o hlt (by omega)
              have b6o := b66.below hBo b66.lt
              have hB3o : Below p6 w3 wr := hB36.trans (hBo.mono (by omega))
              have I9o := Lib.hid (fun W hb => I9.out W v o hb)
              rw [hsme] at I9o
              have hso := hBo.size
              simp only at I9o
              go_wp2_with (first
                | (refine wpList_load_blk 27 (.tmp 6) agg_bean rfl rfl rfl b6o rfl ?_)
                | (go_at_call 22; refine (I9o.out _ hB3o).mono ?_; rintro e w8 ⟨rfl, hb8⟩; refine at_stop ?_))
              unfold Stop
              have hB8 : Below wm.heap.size wm w8 := hBo.trans (hb8.mono hso)
              have hq1 := bit_i64 wh v (by omega)
              have hq2 := bit_i64 wh o (by omega)
              generalize bitI wh v = q1 at *
              generalize bitI wh o = q2 at *
              clear b6o hB3o I9o hBo hb8 I8 I9
              go_wp2_with fail
              refine Ord.wp_region [(0, 0), (1, 0), (2, 0), (3, 0), (4, 0), (5, 0), (6, 0), (7, 0), (8, 0), (9, 0)] (fun _ => True) (by kernel_rfl) (by kernel_rfl) (fun c a d v w h => by cases d <;> exact h) trivial ?_
              go_upto_region 28 with (first
                | ((with_reducible refine Ord.at_calm ?_); refine Ord.calm_skip rfl ?_ (fun K hK => ?_); (focus (simp [Region.wanted, yielded]; done))) | with_reducible refine Ord.walk_calm rfl rfl (fun K hK => ?_) | ((with_reducible refine Ord.at_wild ?_); refine Ord.wild_fieldAddr rfl rfl (fun W => by simp [go_sem]; rfl) (fun K hK => ?_)) | ((with_reducible refine Ord.at_wild ?_); refine Ord.wild_move rfl rfl (fun K hK => ?_)) | ((with_reducible refine Ord.at_wild ?_); refine Ord.wild_nilCheck rfl rfl (fun K hK => ?_)) | with_reducible refine Ord.walk_eff rfl (by first | (simp; done) | assumption | (go_simp; done) | (repeat (first | assumption | exact Below.refl _ _ | refine Below.drew ?_ | refine Below.alloc ?_ (by first | omega | (simp; done) | (simp; omega)) _ | refine Below.setCell ?_ (by first | omega | (simp; done) | (simp; omega)) _ | refine Below.trans ?_ (Below.mono (by assumption) (by first | omega | (simp; done) | (simp; omega)))))) (fun K hK => ?_) | with_reducible refine Ord.at_fork ?_ ?_ | with_reducible refine Ord.walk_nil ?_ | (with_reducible refine Ord.next_of (by first | (simp; done) | (go_simp; done) | (repeat (first | assumption | exact Below.refl _ _ | refine Below.drew ?_ | refine Below.alloc ?_ (by first | omega | (simp; done) | (simp; omega)) _ | refine Below.setCell ?_ (by first | omega | (simp; done) | (simp; omega)) _ | refine Below.trans ?_ (Below.mono (by assumption) (by first | omega | (simp; done) | (simp; omega)))))) (fun _ => ?_)))
              go_cut [30, 273] from 256 to 273 (fun _ p wx => p = .bool false ∧ wx = w8.drew)
              case first =>
                clear HW HSm HSz HTV HTn HV HP HP1 bb hB hB3 hp6 b6 b66 hB36 hB6 hA hsme hB8
                cases hbq : (q1 == q2) <;> rw [hbq] at hscase <;> simp only [Bool.false_eq_true, Bool.true_eq_false, and_true, and_false, or_false, false_or] at hscase <;> rcases hscase with rfl | rfl
                all_goals go_wp2_with fail
                all_goals go_meet
                all_goals exact ⟨rfl, rfl⟩
              case rest =>
                obtain ⟨rfl, rfl⟩ := hcut
                go_wp2_with fail
                exact ⟨⟨o + 1, by omega, by go_num, hB8.drew⟩, by simp [intOf]; omega⟩
            · have hoti : ¬ (o : Int) < (v : Int) := by omega
              have hB9 : Below wk.heap.size wk wr := hB6.trans (hBo.mono hs6)
              go_wp2_with fail
              exact ⟨⟨v + 1, by omega, by go_num, hB9⟩, by simp [intOf]; omega⟩
      · have hlti : ¬ (v : Int) < b.V := by have := HV.out; omega
        go_wp2_with (first
          | (go_at_call 13; refine (hA.out _).mono ?_; rintro e w7 ⟨rfl, hb7⟩))
        go_ret
        exact ⟨rfl, (hB.trans (hBr.mono hB.size)).trans (hb7.mono (by have := hB.size; have := hBr.size; omega))⟩
end Go.Proofs.Ytjbjmoghloabpaa
