/- Parts of a proof: MuP, OrdW, AppW. -/
import Derived.Test.YteeinehpneppnaaW34
import Derived.Test.YteeinehpneppnaaW32
import Derived.Test.YteeinehpneppnaaW23
/- Plain laws of MobEnds. -/
set_option linter.unusedVariables false
set_option linter.unusedSimpArgs false
namespace Go.Proofs.Yteeinehpneppnaa
open Go.RowKit Go.Proofs
attribute [local irreducible] Ord.walk
/-- A way with one thing more that was seen. -/
def withM (m : Mb) (s : Int × Int × Int × Int) : Mb := { m with seen := m.seen ++ [s] }
theorem mem_TM {m : Mb} (hv : validM m = true) (L D : List Int) : (L, D) ∈ TM m ↔ L ∈ prodL m.legs ∧ D ∈ prodL (leavesL m) ∧ ∀ s ∈ m.seen, seenB m L D s = true := by
  have hlen := validM_len hv
  unfold TM truthsM
  constructor
  · intro h
    obtain ⟨L', hL', h2⟩ := List.mem_flatMap.1 h
    obtain ⟨D', hD', e⟩ := List.mem_map.1 h2
    cases e
    have h3 := List.mem_filter.1 hD'
    refine ⟨hL', h3.1, fun s hs => ?_⟩
    obtain ⟨i, hi, e⟩ := List.mem_iff_getElem.1 hs
    have := (rightM_iff _ _ _ _).1 h3.2 i hi (hasB_every _ i hi (by omega))
    rw [List.getD_eq_getElem?_getD, List.getElem?_eq_getElem hi, Option.getD_some, e] at this
    exact this
  · rintro ⟨h1, h2, h3⟩
    refine List.mem_flatMap.2 ⟨L, h1, List.mem_map.2 ⟨D, List.mem_filter.2 ⟨h2, (rightM_iff _ _ _ _).2 fun i hi _ => ?_⟩, rfl⟩⟩
    rw [List.getD_eq_getElem?_getD, List.getElem?_eq_getElem hi, Option.getD_some]
    exact h3 _ (List.getElem_mem hi)
theorem seenB_with (m : Mb) (S : List (Int × Int × Int × Int)) (L D : List Int) (x : Int × Int × Int × Int) : seenB { m with seen := S } L D x = seenB m L D x := seenB_sub m S L D x
theorem with_valid {m : Mb} (hv : validM m = true) {s : Int × Int × Int × Int} (hl : m.seen.length < 5) (hs : fromB m s.1 s.2.1 = true ∧ 0 ≤ s.2.2.1 ∧ s.2.2.1 ≤ s.2.2.2 ∧ s.2.2.2 ≤ 100) : validM (withM m s) = true := by
  have h := vparts hv
  have hlen := h.len
  refine validM_mk h.pl ?_ h.lg h.hd ?_
  · simp only [withM, List.length_append, List.length_cons, List.length_nil]; omega
  · intro x hx
    simp only [withM, List.mem_append, List.mem_singleton] at hx
    rcases hx with hx | rfl
    · exact h.sn x hx
    · exact hs
theorem mem_with {m : Mb} (hv : validM m = true) {s : Int × Int × Int × Int} (hw : validM (withM m s) = true) (L D : List Int) : (L, D) ∈ TM (withM m s) ↔ (L, D) ∈ TM m ∧ seenB m L D s = true := by
  rw [mem_TM hw, mem_TM hv]
  have e : ∀ x, seenB (withM m s) L D x = seenB m L D x := fun x => seenB_with m _ L D x
  simp only [e]
  have e2 : (withM m s).seen = m.seen ++ [s] := rfl
  rw [e2]
  constructor
  · rintro ⟨h1, h2, h3⟩
    exact ⟨⟨h1, h2, fun x hx => h3 x (List.mem_append.2 (.inl hx))⟩, h3 s (List.mem_append.2 (.inr (by simp)))⟩
  · rintro ⟨⟨h1, h2, h3⟩, h4⟩
    refine ⟨h1, h2, fun x hx => ?_⟩
    rcases List.mem_append.1 hx with hx | hx
    · exact h3 x hx
    · simp only [List.mem_singleton] at hx; subst hx; exact h4
/-- The days of a mob at a place, in all truths. -/
def daysJ (m : Mb) (i p : Nat) : Int × Int := joinL ((TM m).map fun t => dup (dayAt m t.1 t.2 i p))
theorem daysJ_in {m : Mb} (hT : TM m ≠ []) (i p : Nat) : (∀ L D, (L, D) ∈ TM m → (daysJ m i p).1 ≤ dayAt m L D i p ∧ dayAt m L D i p ≤ (daysJ m i p).2) ∧ (∃ L D, (L, D) ∈ TM m ∧ dayAt m L D i p = (daysJ m i p).1) ∧ (∃ L D, (L, D) ∈ TM m ∧ dayAt m L D i p = (daysJ m i p).2) := by
  have hne := tm_ne hT fun t => dup (dayAt m t.1 t.2 i p)
  have h1 : ∀ L D, (L, D) ∈ TM m → (daysJ m i p).1 ≤ dayAt m L D i p ∧ dayAt m L D i p ≤ (daysJ m i p).2 := fun L D ht =>
    ⟨(joinL_fst hne _).2 ⟨_, List.mem_map.2 ⟨_, ht, rfl⟩, Int.le_refl _⟩, (joinL_snd hne _).1 (Int.le_refl _) _ (List.mem_map.2 ⟨_, ht, rfl⟩)⟩
  refine ⟨h1, ?_, ?_⟩
  · obtain ⟨x, hx, h2⟩ := (joinL_fst hne _).1 (Int.le_refl _)
    obtain ⟨⟨L, D⟩, ht, rfl⟩ := List.mem_map.1 hx
    have := (h1 L D ht).1
    refine ⟨L, D, ht, ?_⟩
    have h3 : dayAt m L D i p ≤ (daysJ m i p).1 := h2
    omega
  · rcases Classical.em (∃ L D, (L, D) ∈ TM m ∧ dayAt m L D i p = (daysJ m i p).2) with h | h
    · exact h
    · exfalso
      have : (daysJ m i p).2 ≤ (daysJ m i p).2 - 1 := (joinL_snd hne _).2 fun x hx => by
        obtain ⟨⟨L, D⟩, ht, rfl⟩ := List.mem_map.1 hx
        have := (h1 L D ht).2
        have : dayAt m L D i p ≠ (daysJ m i p).2 := fun e => h ⟨L, D, ht, e⟩
        show dayAt m L D i p ≤ (daysJ m i p).2 - 1
        omega
      omega
theorem comes_ok {m : Mb} {i p : Nat} (hv : validM m = true) (hf : fromB m i p = true) (hT : TM m ≠ []) : comesR m i p = (daysJ m i p, 0) := by
  rw [comesR_eq]
  unfold comesE
  have hk : knownE m (fromB m i p) = 0 := by unfold knownE; rw [hv, hf, if_neg (by simp), if_neg (by simp), if_neg hT]
  rw [if_pos hk, Int.toNat_natCast, Int.toNat_natCast]
  rfl
theorem comes_no {m : Mb} {i p : Int} (hv : validM m = true) (hf : fromB m i p = false) : comesR m i p = ((0, 0), 2) := by
  rw [comesR_eq]
  unfold comesE
  have hk : knownE m (fromB m i p) = 2 := by unfold knownE; rw [hv, hf, if_neg (by simp), if_pos rfl]
  rw [hk, if_neg (by decide)]
theorem comes_clash {m : Mb} {i p : Int} (hv : validM m = true) (hf : fromB m i p = true) (hT : TM m = []) : comesR m i p = ((0, 0), 10) := by
  rw [comesR_eq]
  unfold comesE
  have hk : knownE m (fromB m i p) = 10 := by unfold knownE; rw [hv, hf, if_neg (by simp), if_neg (by simp), if_pos hT]
  rw [hk, if_neg (by decide)]
theorem inK_mono (m : Mb) {L L' : List Int} {s : Nat} {d d' : Int} (hd : d ≤ d') : ∀ k, (∀ j, j < k → L.getD (s + j) 0 ≤ L'.getD (s + j) 0) → inK m L s d k ≤ inK m L' s d' k
  | 0, _ => hd
  | k + 1, h => by
    have ih := inK_mono m hd k (fun j hj => h j (by omega))
    have := h k (by omega)
    simp only [inK]
    omega
def lowL (m : Mb) : List Int := m.legs.map (·.1)
def highL (m : Mb) : List Int := m.legs.map (·.2)
theorem lowL_get (m : Mb) (p : Nat) : (lowL m).getD p 0 = (m.legs.getD p (0, 0)).1 ∧ (highL m).getD p 0 = (m.legs.getD p (0, 0)).2 := by
  unfold lowL highL
  simp only [List.getD_eq_getElem?_getD, List.getElem?_map]
  cases m.legs[p]? <;> simp
theorem leaves_lo {m : Mb} (hv : validM m = true) : m.herds.map (·.2.1) ∈ prodL (leavesL m) ∧ m.herds.map (·.2.2.1) ∈ prodL (leavesL m) := by
  have h := (vparts hv).hd
  constructor
  all_goals
    refine (mem_prodL _ _).2 ⟨by simp [leavesL], fun i hi => ?_⟩
    have hi' : i < m.herds.length := by simpa [leavesL] using hi
    have := h _ (List.getElem_mem hi')
    refine ⟨_, by rw [List.getElem?_map, List.getElem?_eq_getElem hi']; rfl, ?_, ?_⟩ <;> simp only [leavesL, List.getElem_map] <;> omega
theorem fromB_of {m : Mb} {i p : Nat} (hi : i < m.herds.length) (h1 : startI m i ≤ p) (h2 : p < m.places.length) : fromB m i p = true := by
  unfold fromB inB
  simp only [Bool.and_eq_true, decide_eq_true_eq]
  omega
theorem bare_days {m : Mb} (hv : validM m = true) {i p : Nat} (hi : i < m.herds.length) (hp : p < m.places.length) :
    daysJ (bareM m) i p = (inK m (lowL m) (startN m i) (m.herds.getD i (0, 0, 0, 0)).2.1 (p - startN m i), inK m (highL m) (startN m i) (m.herds.getD i (0, 0, 0, 0)).2.2.1 (p - startN m i)) := by
  have hb := bare_valid hv
  obtain ⟨_, hT, _⟩ := bare_known hb rfl (vb := true) rfl
  have hlen := validM_len hv
  have hst := start_le hv hi
  have hday : ∀ L D, dayAt (bareM m) L D i p = inK m L (startN m i) (D.getD i 0) (p - startN m i) := fun L D => inK_sub m [] L _ _ _
  have hget : m.herds.getD i (0, 0, 0, 0) = m.herds[i] := by rw [List.getD_eq_getElem?_getD, List.getElem?_eq_getElem hi]; rfl
  obtain ⟨h1, ⟨L1, D1, t1, e1⟩, ⟨L2, D2, t2, e2⟩⟩ := daysJ_in hT i p
  have hin : ∀ L D, (L, D) ∈ TM (bareM m) → inK m (lowL m) (startN m i) (m.herds.getD i (0, 0, 0, 0)).2.1 (p - startN m i) ≤ dayAt (bareM m) L D i p ∧ dayAt (bareM m) L D i p ≤ inK m (highL m) (startN m i) (m.herds.getD i (0, 0, 0, 0)).2.2.1 (p - startN m i) := fun L D ht => by
    obtain ⟨hL, hD, _⟩ := (mem_TM hb L D).1 ht
    have hL' : L ∈ prodL m.legs := hL
    obtain ⟨_, hD2⟩ := (mem_prodL _ _).1 hD
    obtain ⟨y, ey, hy⟩ := hD2 i (by show i < (leavesL (bareM m)).length; simp [leavesL, bareM]; exact hi)
    have hy' : m.herds[i].2.1 ≤ y ∧ y ≤ m.herds[i].2.2.1 := by simpa [leavesL, bareM] using hy
    rw [hday, hget]
    have hDi : D.getD i 0 = y := by rw [List.getD_eq_getElem?_getD, ey]; rfl
    rw [hDi]
    constructor
    · refine inK_mono m hy'.1 _ fun j hj => ?_
      rw [(lowL_get m _).1]
      exact (legs_in hv hL' (by omega)).1
    · refine inK_mono m hy'.2 _ fun j hj => ?_
      rw [(lowL_get m _).2]
      exact (legs_in hv hL' (by omega)).2.1
  have hlo : (lowL m, m.herds.map (·.2.1)) ∈ TM (bareM m) := (mem_TM hb _ _).2 ⟨(legs_lo hv).1, (leaves_lo hv).1, fun s hs => absurd hs (by simp [bareM])⟩
  have hhi : (highL m, m.herds.map (·.2.2.1)) ∈ TM (bareM m) := (mem_TM hb _ _).2 ⟨(legs_lo hv).2, (leaves_lo hv).2, fun s hs => absurd hs (by simp [bareM])⟩
  have k1 := (h1 _ _ hlo).1
  have k2 := (h1 _ _ hhi).2
  have g1 : (m.herds.map (·.2.1)).getD i 0 = (m.herds.getD i (0, 0, 0, 0)).2.1 := by rw [List.getD_eq_getElem?_getD, List.getElem?_map, List.getElem?_eq_getElem hi, hget]; rfl
  have g2 : (m.herds.map (·.2.2.1)).getD i 0 = (m.herds.getD i (0, 0, 0, 0)).2.2.1 := by rw [List.getD_eq_getElem?_getD, List.getElem?_map, List.getElem?_eq_getElem hi, hget]; rfl
  rw [hday, g1] at k1
  rw [hday, g2] at k2
  have k3 := (hin _ _ t1).1
  have k4 := (hin _ _ t2).2
  rw [e1] at k3
  rw [e2] at k4
  exact Prod.ext (by simp only; omega) (by simp only; omega)
/-- What MobEnds asks for. -/
structure Ef (m : Mb) (i p : Nat) (lo hi k x j : Int) : Prop where
  comes : comesR m i p = ((lo, hi), k)
  clash : clashP m = (x, j)
  no1 : comesR m i (startI m i - 1) = ((0, 0), 2)
  no2 : comesR m i m.places.length = ((0, 0), 2)
  case : (k = 10 ∧ lo = 0 ∧ hi = 0 ∧ j ≠ 4) ∨ (k = 0 ∧ j = 4 ∧ lo ≤ hi ∧ 0 ≤ lo ∧ hi ≤ 100 ∧ (m.seen.length < 5 → ∀ d, (d = lo - 1 ∨ d = lo ∨ d = hi ∨ d = hi + 1) → 0 ≤ d → d ≤ 100 →
    (lo ≤ d ∧ d ≤ hi ∧ comesR (withM m (i, p, d, d)) i p = ((d, d), 0)) ∨ (¬ (lo ≤ d ∧ d ≤ hi) ∧ comesR (withM m (i, p, d, d)) i p = ((0, 0), 10))))
theorem ef {m : Mb} (hv : validM m = true) {i p : Nat} (hi : i < m.herds.length) (hp1 : startN m i ≤ p) (hp2 : p < m.places.length) : ∃ lo hi k x j, Ef m i p lo hi k x j := by
  have hst := start_le hv hi
  have hlen := validM_len hv
  have hf : fromB m i p = true := fromB_of hi (by omega) hp2
  have n1 : comesR m i (startI m i - 1) = ((0, 0), 2) := comes_no hv (by
    unfold fromB
    simp only [Bool.and_eq_false_iff, decide_eq_false_iff_not]
    right; right; omega)
  have n2 : comesR m i m.places.length = ((0, 0), 2) := comes_no hv (by
    unfold fromB inB
    simp only [Bool.and_eq_false_iff, decide_eq_false_iff_not]
    right; left; omega)
  obtain ⟨x, j, hc⟩ := cf hv
  by_cases hT : TM m = []
  · refine ⟨0, 0, 10, x, j, comes_clash hv hf hT, hc.clash, n1, n2, .inl ⟨rfl, rfl, rfl, ?_⟩⟩
    rcases hc.case with ⟨_, _, h⟩ | ⟨q, h, _⟩
    · exfalso
      have : (TM m).isEmpty = false := h
      rw [hT] at this; cases this
    · omega
  · have hj : j = 4 := by
      rcases hc.case with ⟨h, _, _⟩ | ⟨q, _, _, _, _, h, _⟩
      · exact h
      · exfalso
        have : (TM m).isEmpty = true := h
        exact hT (List.isEmpty_iff.1 this)
    obtain ⟨h1, ⟨L1, D1, t1, e1⟩, ⟨L2, D2, t2, e2⟩⟩ := daysJ_in hT i p
    have hb : ∀ L D, (L, D) ∈ TM m → 0 ≤ dayAt m L D i p ∧ dayAt m L D i p ≤ 100 := fun L D ht => by
      obtain ⟨hL, hD, _⟩ := (mem_TM hv L D).1 ht
      obtain ⟨_, hD2⟩ := (mem_prodL _ _).1 hD
      obtain ⟨y, ey, hy⟩ := hD2 i (by simp [leavesL]; exact hi)
      have hy' : m.herds[i].2.1 ≤ y ∧ y ≤ m.herds[i].2.2.1 := by simpa [leavesL] using hy
      have hh := (vparts hv).hd _ (List.getElem_mem hi)
      have hDi : D.getD i 0 = y := by rw [List.getD_eq_getElem?_getD, ey]; rfl
      have := inK_bound hv hL (startN m i) (d := D.getD i 0) (by omega) (by omega) (p - startN m i)
      unfold dayAt
      omega
    have b1 := hb _ _ t1
    have b2 := hb _ _ t2
    rw [e1] at b1
    rw [e2] at b2
    have hle : (daysJ m i p).1 ≤ (daysJ m i p).2 := by have := h1 _ _ t1; omega
    refine ⟨(daysJ m i p).1, (daysJ m i p).2, 0, x, j, comes_ok hv hf hT, hc.clash, n1, n2, .inr ⟨rfl, hj, hle, b1.1, b2.2, fun hs5 d hd hd0 hd1 => ?_⟩⟩
    have hw : validM (withM m (i, p, d, d)) = true := with_valid hv hs5 ⟨hf, hd0, Int.le_refl _, hd1⟩
    have hfw : fromB (withM m (i, p, d, d)) i p = true := hf
    have hsb : ∀ L D, seenB m L D ((i : Int), (p : Int), d, d) = true ↔ dayAt m L D i p = d := fun L D => by
      unfold seenB
      simp only [Int.toNat_natCast]
      unfold inB
      simp only [Bool.and_eq_true, decide_eq_true_eq]
      omega
    have hdw : ∀ L D, dayAt (withM m (i, p, d, d)) L D i p = dayAt m L D i p := fun L D => inK_sub m _ L _ _ _
    by_cases hin : (daysJ m i p).1 ≤ d ∧ d ≤ (daysJ m i p).2
    · refine .inl ⟨hin.1, hin.2, ?_⟩
      have hTw : TM (withM m (i, p, d, d)) ≠ [] := fun e => by
        rcases (show d = (daysJ m i p).1 ∨ d = (daysJ m i p).2 by omega) with h | h
        · have := (mem_with hv hw L1 D1).2 ⟨t1, (hsb _ _).2 (by rw [e1, h])⟩
          rw [e] at this; cases this
        · have := (mem_with hv hw L2 D2).2 ⟨t2, (hsb _ _).2 (by rw [e2, h])⟩
          rw [e] at this; cases this
      rw [comes_ok hw hfw hTw]
      obtain ⟨_, ⟨L3, D3, t3, e3⟩, ⟨L4, D4, t4, e4⟩⟩ := daysJ_in hTw i p
      have k3 := (hsb _ _).1 ((mem_with hv hw _ _).1 t3).2
      have k4 := (hsb _ _).1 ((mem_with hv hw _ _).1 t4).2
      rw [hdw] at e3 e4
      have : daysJ (withM m (i, p, d, d)) i p = (d, d) := Prod.ext (by simp only; omega) (by simp only; omega)
      rw [this]
    · refine .inr ⟨hin, comes_clash hw hfw ?_⟩
      apply List.eq_nil_iff_forall_not_mem.2
      rintro ⟨L, D⟩ ht
      have h2 := (mem_with hv hw L D).1 ht
      have h3 := (hsb L D).1 h2.2
      have := h1 L D h2.1
      omega
theorem no_where {m : Mb} (hv : validM m = true) {i d : Int} (h : (herdB m i && inB d 0 100) = false) : whereP m i d = (0, 2) := by
  unfold whereP
  have : knownP m (herdB m i && inB d 0 100) = 2 := by unfold knownP; rw [hv, h, if_neg (by simp), if_pos rfl]
  rw [this, if_neg (by decide)]
theorem no_there {m : Mb} (hv : validM m = true) {d : Int} (h : inB d 0 100 = false) : thereR m d = (0, 0, 2) := by
  unfold thereR
  have : knownP m (inB d 0 100) = 2 := by unfold knownP; rw [hv, h, if_neg (by simp), if_pos rfl]
  rw [this, if_neg (by decide)]
theorem no_stretch {m : Mb} (hv : validM m = true) {i : Int} (h : herdB m i = false) : stretchR m i = ((0, 0), 2) := by
  unfold stretchR
  have : knownP m (herdB m i) = 2 := by unfold knownP; rw [hv, h, if_neg (by simp), if_pos rfl]
  rw [this, if_neg (by decide)]
theorem no_ahead {m : Mb} (hv : validM m = true) {i k : Int} (h : (herdB m i && herdB m k) = false) : aheadP m i k = (0, 2) := by
  unfold aheadP
  have : knownP m (herdB m i && herdB m k) = 2 := by unfold knownP; rw [hv, h, if_neg (by simp), if_pos rfl]
  rw [this, if_neg (by decide)]
theorem not_valid {m : Mb} (hv : validM m = false) : comesR m 0 1 = ((0, 0), 1) ∧ clashP m = (0, 1) := by
  constructor
  · unfold comesR
    have : knownP m (fromB m 0 1) = 1 := by unfold knownP; rw [hv, if_pos rfl]
    rw [this, if_neg (by decide)]
  · rw [clashP_eq]
    unfold clashR
    rw [if_pos hv]
end Go.Proofs.Yteeinehpneppnaa
/- Drawn regions by tokens: each operation's own result, whatever order. -/
set_option linter.unusedVariables false
set_option linter.unusedSimpArgs false
namespace Go.Ord
variable {P : Program} {Q : Exit → Act → World → Prop}
def setV (vals : Nat → Value) (i : Nat) (v : Value) : Nat → Value := fun j => if j = i then v else vals j
/-- j has come up whenever i has. -/
def ancB (lo : List Oper) : Nat → Nat → Nat → Bool
  | 0, _, _ => false
  | f + 1, i, j => ((lo[i]?).map fun o => o.after.any fun e => Region.binds .any e && (e.on == j || ancB lo f e.on j)).getD false
theorem closed_anc {lo : List Oper} {ls : Nat → Bool} (ht : topoB lo = true) (hc : ∀ i, i < lo.length → ls i = true → predsB lo ls i = true) : ∀ f i j, i < lo.length → predsB lo ls i = true → ancB lo f i j = true → j < lo.length ∧ ls j = true
  | 0, _, _, _, _, h => by simp [ancB] at h
  | f + 1, i, j, hi, hp, h => by
    have ho : lo[i]? = some lo[i] := List.getElem?_eq_getElem hi
    simp only [ancB, ho, Option.map_some, Option.getD_some] at h
    obtain ⟨k, hk, h1⟩ := Array.any_eq_true.1 h
    obtain ⟨e, he0⟩ : ∃ e, e = lo[i].after[k] := ⟨_, rfl⟩
    have he : e ∈ lo[i].after := by rw [he0]; exact Array.getElem_mem hk
    rw [← he0] at h1
    simp only [Bool.and_eq_true, Bool.or_eq_true, beq_iff_eq] at h1
    have h2 : e.on < i := by
      unfold topoB at ht
      have h3 := List.all_eq_true.1 ht i (List.mem_range.2 hi)
      rw [ho] at h3
      simp only [Option.map_some, Option.getD_some] at h3
      simpa using Array.all_eq_true_iff_forall_mem.1 h3 e he
    have h4 : ls e.on = true := by
      unfold predsB at hp
      rw [ho] at hp
      simp only [Option.map_some, Option.getD_some] at hp
      have := Array.all_eq_true_iff_forall_mem.1 hp e he
      rw [h1.1] at this
      simpa using this
    rcases h1.2 with rfl | h5
    · exact ⟨by omega, h4⟩
    · exact closed_anc ht hc f e.on j (by omega) (hc _ (by omega) h4) h5
/-- What the operations of a region do. -/
structure Tk where
  n0 : Nat
  F : (Nat → Value) → Array Value
  ds : List Deferred
  H : World → Prop
  rd : Nat → Option Value
  use : Nat → List Nat
  take : Nat → List Nat
  T : Nat → Value → List Nat → World → Prop
  init : List Nat
def Tk.live (t : Tk) (n : Nat) (ls : Nat → Bool) (i : Nat) : Prop := (i ∈ t.init ∨ (i < n ∧ ls i = true)) ∧ ∀ c, c < n → i ∈ t.take c → ls c = false
/-- An operation has come up. -/
def Tk.Step (t : Tk) (i : Nat) (vals : Nat → Value) (bs : Nat → List Nat) (w : World) (a' : Act) (w' : World) : Prop :=
  ∃ v bs', a' = ⟨t.F (setV vals i v), t.ds⟩ ∧ t.H w' ∧ (∀ u, t.rd i = some u → v = u) ∧ t.T i v bs' w' ∧ (∀ k ∈ bs', t.n0 ≤ k ∧ k < w'.heap.size ∧ (w.heap.size ≤ k ∨ ∃ j ∈ t.take i, k ∈ bs j)) ∧ w.heap.size ≤ w'.heap.size ∧
    (∀ k, k < w.heap.size → (∀ j ∈ t.take i, k ∉ bs j) → w'.heap[k]? = w.heap[k]?)
def Tk.Inv (t : Tk) (lo : List Oper) (ls : Nat → Bool) (a : Act) (w : World) : Prop :=
  ∃ (vals : Nat → Value) (bs : Nat → List Nat), a = ⟨t.F vals, t.ds⟩ ∧ t.H w ∧ (∀ i, i < lo.length → ls i = true → predsB lo ls i = true) ∧ (∀ i, i < lo.length → ls i = true → ∀ u, t.rd i = some u → vals i = u) ∧
    (∀ i, t.live lo.length ls i → t.T i (vals i) (bs i) w ∧ ∀ k ∈ bs i, t.n0 ≤ k ∧ k < w.heap.size) ∧ (∀ i j, t.live lo.length ls i → t.live lo.length ls j → i ≠ j → ∀ k ∈ bs i, k ∉ bs j)
/-- Whatever an operation looks at is there. -/
def Tk.chk (t : Tk) (lo : List Oper) : Bool := (List.range lo.length).all fun i => (t.use i).all fun j =>
  (t.init.contains j || ancB lo lo.length i j) && (List.range lo.length).all fun c => !(t.take c).contains j || (c == i || ancB lo lo.length c i)
def Tk.sub (t : Tk) (lo : List Oper) : Bool := (List.range lo.length).all fun i => (t.take i).all fun j => (t.use i).contains j
theorem predsB_upd {lo : List Oper} {ls : Nat → Bool} {i k : Nat} (h : predsB lo ls k = true) : predsB lo (upd ls i) k = true := by
  unfold predsB at *
  cases ho : lo[k]? with
  | none => rw [ho] at h; exact h
  | some o =>
    rw [ho] at h
    simp only [Option.map_some, Option.getD_some] at h ⊢
    refine Array.all_eq_true_iff_forall_mem.2 fun e he => ?_
    have := Array.all_eq_true_iff_forall_mem.1 h e he
    unfold upd
    cases hb : Region.binds .any e
    · simp
    · rw [hb] at this; simp at this; simp [this]
theorem Tk.step {t : Tk} {lo : List Oper} (ht : topoB lo = true) (hc : t.chk lo = true) (hsub : t.sub lo = true) (hini : ∀ j ∈ t.init, lo.length ≤ j) (hT : ∀ i v bs w w', (∀ k ∈ bs, w'.heap[k]? = w.heap[k]?) → t.T i v bs w → t.T i v bs w')
    (hstep : ∀ i, i < lo.length → ∀ (vals : Nat → Value) (bs : Nat → List Nat) (w : World), t.H w → (∀ j, j < lo.length → ancB lo lo.length i j = true → ∀ u, t.rd j = some u → vals j = u) → (∀ j ∈ t.use i, t.T j (vals j) (bs j) w ∧ ∀ k ∈ bs j, t.n0 ≤ k ∧ k < w.heap.size) →
      (∀ j ∈ t.use i, ∀ j' ∈ t.use i, j ≠ j' → ∀ k ∈ bs j, k ∉ bs j') → ∀ R : Act → World → Prop, (∀ a' w', t.Step i vals bs w a' w' → R a' w') → walk P lo.toArray (fun _ => True) (Qn Q R) [(i, 2)] ⟨t.F vals, t.ds⟩ w)
    (i : Nat) (hi : i < lo.length) (ls : Nat → Bool) (a : Act) (w : World) (hl : ls i = false) (hp : predsB lo ls i = true) (hI : t.Inv lo ls a w) : walk P lo.toArray (fun _ => True) (Qn Q (t.Inv lo (upd ls i))) [(i, 2)] a w := by
  obtain ⟨vals, bs, rfl, hH, hcl, hrd, htok, hdis⟩ := hI
  have hlive : ∀ j ∈ t.use i, t.live lo.length ls j := fun j hj => by
    unfold Tk.chk at hc
    have h1 := List.all_eq_true.1 (List.all_eq_true.1 hc i (List.mem_range.2 hi)) j hj
    simp only [Bool.and_eq_true, Bool.or_eq_true] at h1
    refine ⟨?_, fun c hcl2 hcj => ?_⟩
    · rcases h1.1 with h2 | h2
      · exact .inl (by simpa using h2)
      · exact .inr (closed_anc ht hcl _ _ _ hi hp h2)
    · have h2 := List.all_eq_true.1 h1.2 c (List.mem_range.2 hcl2)
      simp only [Bool.or_eq_true, Bool.not_eq_true', beq_iff_eq] at h2
      rcases h2 with h2 | h2 | h2
      · rw [List.contains_iff_mem.2 hcj] at h2; cases h2
      · rw [h2]; exact hl
      · cases hx : ls c with
        | false => rfl
        | true =>
          have := (closed_anc ht hcl _ _ _ hcl2 (hcl c hcl2 hx) h2).2
          rw [hl] at this; cases this
  refine hstep i hi vals bs w hH (fun j hj ha u hu => hrd j hj (closed_anc ht hcl _ _ _ hi hp ha).2 u hu) (fun j hj => htok j (hlive j hj)) (fun j hj j' hj' hne => hdis j j' (hlive j hj) (hlive j' hj') hne) _ ?_
  rintro a' w' ⟨v, bs', rfl, hH', hv, hTi, hbs, hsz, hoth⟩
  have htk : ∀ j ∈ t.take i, j ∈ t.use i := fun j hj => by
    have := List.all_eq_true.1 (List.all_eq_true.1 hsub i (List.mem_range.2 hi)) j hj
    simpa using this
  -- a token that is alive behind the operation, but not its own, was alive ahead of it, and is not taken
  have hold : ∀ j, j ≠ i → t.live lo.length (upd ls i) j → t.live lo.length ls j ∧ j ∉ t.take i := fun j hji h => by
    refine ⟨⟨h.1.imp id fun ⟨h1, h2⟩ => ⟨h1, by simpa [upd, hji] using h2⟩, fun c hc1 hc2 => ?_⟩, fun hj => ?_⟩
    · have := h.2 c hc1 hc2
      unfold upd at this
      simp only [Bool.or_eq_false_iff] at this
      exact this.2
    · have := h.2 i hi hj
      simp [upd] at this
  have hkeep : ∀ j, t.live lo.length ls j → j ∉ t.take i → ∀ k ∈ bs j, w'.heap[k]? = w.heap[k]? := fun j hj hjt k hk =>
    hoth k ((htok j hj).2 k hk).2 fun j' hj' hk' => hdis j j' hj (hlive j' (htk j' hj')) (fun e => hjt (e ▸ hj')) k hk hk'
  refine ⟨setV vals i v, fun j => if j = i then bs' else bs j, rfl, hH', fun k hk hks => ?_, fun k hk hks u hu => ?_, fun k hk => ?_, fun j k hj hk hne b hb hb2 => ?_⟩
  · by_cases hki : k = i
    · subst hki; exact predsB_upd hp
    · exact predsB_upd (hcl k hk (by simpa [upd, hki] using hks))
  · by_cases hki : k = i
    · subst hki; simp only [setV, if_true]; exact hv u hu
    · simp only [setV, hki, if_false]
      exact hrd k hk (by simpa [upd, hki] using hks) u hu
  · by_cases hki : k = i
    · subst hki
      simp only [setV, if_true]
      exact ⟨hTi, fun b hb => ⟨(hbs b hb).1, (hbs b hb).2.1⟩⟩
    · obtain ⟨h1, h2⟩ := hold k hki hk
      simp only [setV, hki, if_false]
      have h3 := htok k h1
      exact ⟨hT _ _ _ _ _ (hkeep k h1 h2) h3.1, fun b hb => ⟨(h3.2 b hb).1, Nat.lt_of_lt_of_le (h3.2 b hb).2 hsz⟩⟩
  · have hown : ∀ j, j ≠ i → t.live lo.length (upd ls i) j → ∀ b ∈ bs j, b ∉ bs' := fun j hji hj b hb hb' => by
      obtain ⟨h1, h2⟩ := hold j hji hj
      rcases (hbs b hb').2.2 with h3 | ⟨j', hj', h3⟩
      · have := ((htok j h1).2 b hb).2; omega
      · exact hdis j j' h1 (hlive j' (htk j' hj')) (fun e => h2 (e ▸ hj')) b hb h3
    by_cases hji : j = i
    · subst hji
      have hkj : k ≠ j := fun e => hne e.symm
      simp only [if_true] at hb
      simp only [hkj, if_false] at hb2
      exact hown k hkj hk b hb2 hb
    · simp only [hji, if_false] at hb
      by_cases hki : k = i
      · subst hki
        simp only [if_true] at hb2
        exact hown j hji hj b hb hb2
      · simp only [hki, if_false] at hb2
        exact hdis j k (hold j hji hj).1 (hold k hki hk).1 hne b hb hb2
/-- What holds at the end. -/
theorem Tk.fin {t : Tk} {lo : List Oper} (hend : ∀ (vals : Nat → Value) (bs : Nat → List Nat) (w : World), t.H w → (∀ j, j < lo.length → ∀ u, t.rd j = some u → vals j = u) → (∀ j, (j ∈ t.init ∨ j < lo.length) → (∀ c, c < lo.length → j ∉ t.take c) → t.T j (vals j) (bs j) w ∧ ∀ k ∈ bs j, t.n0 ≤ k ∧ k < w.heap.size) →
      (∀ i j, (i ∈ t.init ∨ i < lo.length) → (∀ c, c < lo.length → i ∉ t.take c) → (j ∈ t.init ∨ j < lo.length) → (∀ c, c < lo.length → j ∉ t.take c) → i ≠ j → ∀ k ∈ bs i, k ∉ bs j) → Q .normal ⟨t.F vals, t.ds⟩ w)
    (ls : Nat → Bool) (a : Act) (w : World) (h : ∀ i, i < lo.length → ls i = true) (hI : t.Inv lo ls a w) : Q .normal a w := by
  obtain ⟨vals, bs, rfl, hH, hcl, hrd, htok, hdis⟩ := hI
  have hl : ∀ j, (j ∈ t.init ∨ j < lo.length) → (∀ c, c < lo.length → j ∉ t.take c) → t.live lo.length ls j := fun j h1 h2 => ⟨h1.imp id fun h3 => ⟨h3, h j h3⟩, fun c hc hj => absurd hj (h2 c hc)⟩
  exact hend vals bs w hH (fun j hj u hu => hrd j hj (h j hj) u hu) (fun j h1 h2 => htok j (hl j h1 h2)) (fun i j h1 h2 h3 h4 hne => hdis i j (hl i h1 h2) (hl j h3 h4) hne)
theorem Tk.start {t : Tk} {lo : List Oper} (hini : ∀ j ∈ t.init, lo.length ≤ j) {a : Act} {w : World} (vals : Nat → Value) (bs : Nat → List Nat) (ha : a = ⟨t.F vals, t.ds⟩) (hH : t.H w) (h0 : ∀ j ∈ t.init, t.T j (vals j) (bs j) w ∧ ∀ k ∈ bs j, t.n0 ≤ k ∧ k < w.heap.size)
    (hd : ∀ i ∈ t.init, ∀ j ∈ t.init, i ≠ j → ∀ k ∈ bs i, k ∉ bs j) : t.Inv lo (fun _ => false) a w := by
  have hl : ∀ i, t.live lo.length (fun _ => false) i → i ∈ t.init := fun i h => by
    rcases h.1 with h1 | h1
    · exact h1
    · cases h1.2
  exact ⟨vals, bs, ha, hH, fun _ _ h => (by cases h), fun _ _ h => (by cases h), fun i h => h0 i (hl i h), fun i j hi hj => hd i (hl i hi) j (hl j hj)⟩
theorem wp_regionW {id : Nat} {a : Act} {w : World} {lo : List Oper} (t : Tk) (hm : P.follows .mixedOrders = true) (ht : topoB lo = true) (hc : t.chk lo = true) (hsub : t.sub lo = true) (hini : ∀ j ∈ t.init, lo.length ≤ j) (hT : ∀ i v bs w w', (∀ k ∈ bs, w'.heap[k]? = w.heap[k]?) → t.T i v bs w → t.T i v bs w')
    (vals : Nat → Value) (bs : Nat → List Nat) (ha : a = ⟨t.F vals, t.ds⟩) (hH : t.H w.drew) (h0 : ∀ j ∈ t.init, t.T j (vals j) (bs j) w.drew ∧ ∀ k ∈ bs j, t.n0 ≤ k ∧ k < w.drew.heap.size) (hd : ∀ i ∈ t.init, ∀ j ∈ t.init, i ≠ j → ∀ k ∈ bs i, k ∉ bs j)
    (hstep : ∀ i, i < lo.length → ∀ (vals : Nat → Value) (bs : Nat → List Nat) (w : World), t.H w → (∀ j, j < lo.length → ancB lo lo.length i j = true → ∀ u, t.rd j = some u → vals j = u) → (∀ j ∈ t.use i, t.T j (vals j) (bs j) w ∧ ∀ k ∈ bs j, t.n0 ≤ k ∧ k < w.heap.size) →
      (∀ j ∈ t.use i, ∀ j' ∈ t.use i, j ≠ j' → ∀ k ∈ bs j, k ∉ bs j') → ∀ R : Act → World → Prop, (∀ a' w', t.Step i vals bs w a' w' → R a' w') → walk P lo.toArray (fun _ => True) (Qn Q R) [(i, 2)] ⟨t.F vals, t.ds⟩ w)
    (hend : ∀ (vals : Nat → Value) (bs : Nat → List Nat) (w : World), t.H w → (∀ j, j < lo.length → ∀ u, t.rd j = some u → vals j = u) → (∀ j, (j ∈ t.init ∨ j < lo.length) → (∀ c, c < lo.length → j ∉ t.take c) → t.T j (vals j) (bs j) w ∧ ∀ k ∈ bs j, t.n0 ≤ k ∧ k < w.heap.size) →
      (∀ i j, (i ∈ t.init ∨ i < lo.length) → (∀ c, c < lo.length → i ∉ t.take c) → (j ∈ t.init ∨ j < lo.length) → (∀ c, c < lo.length → j ∉ t.take c) → i ≠ j → ∀ k ∈ bs i, k ∉ bs j) → Q .normal ⟨t.F vals, t.ds⟩ w) : (Code.region id lo.toArray true).wp P Q a w :=
  wp_regionI (t.Inv lo) hm ht (Tk.start hini vals bs ha hH h0 hd) (Tk.step ht hc hsub hini hT hstep) (Tk.fin hend)
theorem wpIn_regionW {l n : Nat} {id : Nat} {a : Act} {w : World} {lo : List Oper} (hO : ¬ LetsOut Q) (t : Tk) (hm : P.follows .mixedOrders = true) (ht : topoB lo = true) (hde : lo.all noDefer = true) (hc : t.chk lo = true) (hsub : t.sub lo = true) (hini : ∀ j ∈ t.init, lo.length ≤ j) (hT : ∀ i v bs w w', (∀ k ∈ bs, w'.heap[k]? = w.heap[k]?) → t.T i v bs w → t.T i v bs w')
    (vals : Nat → Value) (bs : Nat → List Nat) (ha : a = ⟨t.F vals, t.ds⟩) (hH : t.H w.drew) (h0 : ∀ j ∈ t.init, t.T j (vals j) (bs j) w.drew ∧ ∀ k ∈ bs j, t.n0 ≤ k ∧ k < w.drew.heap.size) (hd : ∀ i ∈ t.init, ∀ j ∈ t.init, i ≠ j → ∀ k ∈ bs i, k ∉ bs j)
    (hstep : ∀ i, i < lo.length → ∀ (vals : Nat → Value) (bs : Nat → List Nat) (w : World), t.H w → (∀ j, j < lo.length → ancB lo lo.length i j = true → ∀ u, t.rd j = some u → vals j = u) → (∀ j ∈ t.use i, t.T j (vals j) (bs j) w ∧ ∀ k ∈ bs j, t.n0 ≤ k ∧ k < w.heap.size) →
      (∀ j ∈ t.use i, ∀ j' ∈ t.use i, j ≠ j' → ∀ k ∈ bs j, k ∉ bs j') → ∀ R : Act → World → Prop, (∀ a' w', t.Step i vals bs w a' w' → R a' w') → walk P lo.toArray (fun _ => True) (Qn Q R) [(i, 2)] ⟨t.F vals, t.ds⟩ w)
    (hend : ∀ (vals : Nat → Value) (bs : Nat → List Nat) (w : World), t.H w → (∀ j, j < lo.length → ∀ u, t.rd j = some u → vals j = u) → (∀ j, (j ∈ t.init ∨ j < lo.length) → (∀ c, c < lo.length → j ∉ t.take c) → t.T j (vals j) (bs j) w ∧ ∀ k ∈ bs j, t.n0 ≤ k ∧ k < w.heap.size) →
      (∀ i j, (i ∈ t.init ∨ i < lo.length) → (∀ c, c < lo.length → i ∉ t.take c) → (j ∈ t.init ∨ j < lo.length) → (∀ c, c < lo.length → j ∉ t.take c) → i ≠ j → ∀ k ∈ bs i, k ∉ bs j) → Q .normal ⟨t.F vals, t.ds⟩ w) : (Code.region id lo.toArray true).wpIn (Fence.wide.inRound l) n P Q a w :=
  wpIn_regionI hO (t.Inv lo) hm ht hde (Tk.start hini vals bs ha hH h0 hd) (Tk.step ht hc hsub hini hT hstep) (Tk.fin hend)
end Go.Ord
/- append to an owned row: the row lies where it lay, or in a new block. -/
set_option linter.unusedVariables false
set_option linter.unusedSimpArgs false
namespace Go.Proofs.Yteeinehpneppnaa
open Go.RowKit Go.Proofs
section
variable {P : Program} {w : World}
theorem append_where (base : Nat) (t ty e : TypeId) (i : TypeInfo) (z : Value) (size bytes : Nat) (ht : P.underlying t = some (.slice e)) (hi : P.info? e = some i) (hz : i.zero = some z)
    (hsize : i.size = size) (hby : i.bytes = bytes) (hzs : z.cells.size = size) (hsz : 0 < size)
    (v : Value) (n : Nat) (xs : List Value) (hown : w.ownsRow base e size v n xs)
    (a : Addr) (m c : Nat) (news : List Value) (hl : news.length = m * size) (hnews : ∀ j u, news[j]? = some u → w.cell? (a.add j) = some u) (h1 : ∀ u ∈ news, u.oneCell' = true)
    (h63 : n + m ≤ maxLen) (hbytes : (n + m) * bytes ≤ 140737488355328) (hbase : base ≤ w.heap.size) :
    ∃ v' w', (Builtin.append_ #[t, t] ty #[v, .slice (some a) m c]).run P w = .ok v' w' ∧ w'.ownsRow base e size v' (n + m) (xs ++ news) ∧ w.grownBy w' v.ownBlock ∧ (∀ k, v'.ownBlock = some k → v.ownBlock = some k ∨ w.heap.size ≤ k) := by
  obtain ⟨v', w', hr, h2, h3, h4⟩ := run_append_own (P := P) w base t ty e i z size bytes ht hi hz hsize hby hzs hsz v n xs hown a m c news hl hnews h1 h63 hbytes hbase
  refine ⟨v', w', hr, h2, h3, fun k hk => ?_⟩
  subst hsize hby
  have hsm : n + m ≤ 9223372036854775807 := by unfold maxLen at h63; omega
  rcases hown.2 with ⟨rfl, rfl⟩ | ⟨g, cap, cur, rfl, hbg, hg, hnc, hcm, hcs, htake⟩
  · by_cases hm : m = 0
    · rw [h4.2 ⟨rfl, hm⟩] at hk; cases hk
    · have h5 := run_append_nil (P := P) w t ty e i z ht hi hz a m c news hl hnews (by omega) (by omega) (by rw [Nat.zero_add] at hbytes; omega)
      rw [hr] at h5
      injection h5 with h6 h7
      subst h6
      simp only [Value.ownBlock, Option.some.injEq] at hk
      exact .inr (by omega)
  · by_cases hroom : n + m ≤ cap
    · have h5 := run_append_room (P := P) w t ty e i ht hi g n cap cur hg a m c news hl hnews h1 hroom (by rw [hl, hcs, ← Nat.add_mul]; exact Nat.mul_le_mul_right _ hroom)
      rw [hr] at h5
      injection h5 with h6 h7
      subst h6
      exact .inl hk
    · have h5 := run_append_grow (P := P) w t ty e i z ht hi hz ⟨g, 0, none⟩ n cap xs hown.1 (hown.cells (g := g) rfl) a m c news hl hnews (by omega) (by omega) (growslice_fits (by omega) hbytes)
      rw [hr] at h5
      injection h5 with h6 h7
      subst h6
      simp only [Value.ownBlock, Option.some.injEq] at hk
      exact .inr (by omega)
/-- append(s, l...), s owned, l a list or nil. -/
theorem wpList_appendW {ops : Array Oper} {rest : List Oper} {o : Oper} {a : Act} {Q : Exit → Act → World → Prop} (hgd : o.guard = none) (s x : Operand) (t : TypeId)
    (ho : o.op = .call { callee := .builtin .append, args := #[s, x], argTypes := #[t, t] })
    (base : Nat) (e : TypeId) (i : TypeInfo) (z : Value) (size bytes : Nat) (ht : P.underlying t = some (.slice e)) (hi : P.info? e = some i) (hz : i.zero = some z)
    (hsize : i.size = size) (hby : i.bytes = bytes) (hzs : z.cells.size = size) (hsz : 0 < size)
    (v : Value) (n : Nat) (xs : List Value) (hs : a.eval s = v) (hown : w.ownsRow base e size v n xs)
    (sv : Value) (m : Nat) (news : List Value) (hx : a.eval x = sv) (hsrc : SrcAt w sv m size news) (h1 : ∀ u ∈ news, u.oneCell' = true)
    (h63 : n + m ≤ maxLen) (hbytes : (n + m) * bytes ≤ 140737488355328) (hbase : base ≤ w.heap.size)
    (h : ∀ v' w', w'.ownsRow base e size v' (n + m) (xs ++ news) → w.grownBy w' v.ownBlock → (∀ k, v'.ownBlock = some k → v.ownBlock = some k ∨ w.heap.size ≤ k) → wpList P ops Q rest (a.put o.dst v') w') : wpList P ops Q (o :: rest) a w := by
  obtain ⟨hl, ⟨c, rfl, rfl⟩ | ⟨ad, c, rfl, hnews⟩⟩ := hsrc
  · have hn : news = [] := List.eq_nil_of_length_eq_zero (by simpa using hl)
    subst hn
    refine wpList_plain hgd fun K hK => ?_
    have hr := run_append_none (P := P) (w := w) base t o.type e i ht hi v n size xs hown c
    unfold Oper.wp execOp
    simp only [ho, resolve, invoke, builtin, Sem.run_bind, Sem.run_pure, Result.andThen_ok, List.map_toArray, List.map_cons, List.map_nil, hs, hx, hr]
    refine hK _ _ (h v w (by simpa using hown) ⟨rfl, rfl, rfl, Nat.le_refl _, fun _ _ _ => rfl⟩ (fun k hk => .inl hk))
  · obtain ⟨v', w', hr, h2, h3, h4⟩ := append_where (P := P) (w := w) base t o.type e i z size bytes ht hi hz hsize hby hzs hsz v n xs hown ad m c news hl hnews h1 h63 hbytes hbase
    refine wpList_plain hgd fun K hK => ?_
    unfold Oper.wp execOp
    simp only [ho, resolve, invoke, builtin, Sem.run_bind, Sem.run_pure, Result.andThen_ok, List.map_toArray, List.map_cons, List.map_nil, hs, hx, hr]
    exact hK _ _ (h v' w' h2 h3 h4)
end
end Go.Proofs.Yteeinehpneppnaa
