/- Plain laws: all lists with an integer of each span; all truths. -/
import Derived.Test.YteeinehpneppnaaGreatMbG
set_option linter.unusedVariables false
set_option linter.unusedSimpArgs false
namespace Go.Proofs.YteeinehpneppnaaGreat
open Go.RowKit Go.Proofs
attribute [local irreducible] Ord.walk
theorem mem_rangeI {lo hi x : Int} : x ∈ rangeI lo hi ↔ lo ≤ x ∧ x ≤ hi := by
  unfold rangeI
  rw [List.mem_map]
  constructor
  · rintro ⟨k, hk, rfl⟩
    have := List.mem_range.1 hk
    omega
  · rintro ⟨h1, h2⟩
    exact ⟨(x - lo).toNat, List.mem_range.2 (by omega), by omega⟩
theorem rangeI_len (lo hi : Int) : (rangeI lo hi).length = (hi - lo + 1).toNat := by unfold rangeI; simp
theorem mem_prodL : ∀ (l : List (Int × Int)) (x : List Int), x ∈ prodL l ↔ x.length = l.length ∧ ∀ i, (h : i < l.length) → ∃ y, x[i]? = some y ∧ (l[i]).1 ≤ y ∧ y ≤ (l[i]).2
  | [], x => by
    simp only [prodL, List.mem_singleton, List.length_nil]
    constructor
    · rintro rfl; exact ⟨rfl, fun i h => absurd h (by simp)⟩
    · rintro ⟨h, _⟩; exact List.eq_nil_of_length_eq_zero h
  | p :: r, x => by
    simp only [prodL, List.mem_flatMap, List.mem_map]
    constructor
    · rintro ⟨k, hk, z, hz, rfl⟩
      obtain ⟨h1, h2⟩ := (mem_prodL r z).1 hz
      refine ⟨by simp [h1], fun i hi => ?_⟩
      cases i with
      | zero => exact ⟨k, rfl, mem_rangeI.1 hk⟩
      | succ i =>
        have hi' : i < r.length := by simpa using hi
        obtain ⟨y, e, hy⟩ := h2 i hi'
        exact ⟨y, by simpa using e, by simpa using hy⟩
    · rintro ⟨h1, h2⟩
      cases x with
      | nil => simp at h1
      | cons k z =>
        obtain ⟨y, e, hy⟩ := h2 0 (by simp)
        simp only [List.getElem?_cons_zero, Option.some.injEq] at e
        subst e
        refine ⟨k, mem_rangeI.2 hy, z, (mem_prodL r z).2 ⟨by simpa using h1, fun i hi => ?_⟩, rfl⟩
        obtain ⟨y, e, hy⟩ := h2 (i + 1) (by simpa using hi)
        exact ⟨y, by simpa using e, by simpa using hy⟩
theorem prodL_len (W : Nat) : ∀ (l : List (Int × Int)), (∀ p ∈ l, (p.2 - p.1 + 1).toNat ≤ W) → (prodL l).length ≤ W ^ l.length
  | [], _ => by simp [prodL]
  | p :: r, h => by
    have ih := prodL_len W r (fun q hq => h q (by simp [hq]))
    have h1 := h p (by simp)
    rw [← rangeI_len] at h1
    rw [prodL, List.length_cons, Nat.pow_succ, Nat.mul_comm]
    have : ∀ (ks : List Int), (ks.flatMap fun k => (prodL r).map (k :: ·)).length = ks.length * (prodL r).length := fun ks => by
      induction ks with
      | nil => simp
      | cons k ks ihk => rw [List.flatMap_cons, List.length_append, ihk, List.length_map, List.length_cons, Nat.succ_mul]; omega
    rw [this]
    exact Nat.mul_le_mul h1 ih
/-- When mobs can leave. -/
def leavesL (m : Mb) : List (Int × Int) := m.herds.map fun h => (h.2.1, h.2.2.1)
/-- All truths, by what of a set was seen. -/
def truthsM (m : Mb) (set : Nat) : List (List Int × List Int) := (prodL m.legs).flatMap fun L => ((prodL (leavesL m)).filter fun D => rightM m L D set).map fun D => (L, D)
theorem trOk_of {m : Mb} {L D : List Int} (h1 : L ∈ prodL m.legs) (h2 : D ∈ prodL (leavesL m)) : TrOk m L D := by
  obtain ⟨a1, a2⟩ := (mem_prodL _ _).1 h1
  obtain ⟨b1, b2⟩ := (mem_prodL _ _).1 h2
  have hl : (leavesL m).length = m.herds.length := by unfold leavesL; simp
  refine ⟨a1, by rw [b1, hl], fun i hi => ?_, fun i hi => ?_⟩
  · obtain ⟨y, e, hy⟩ := a2 i (by rw [← a1]; exact hi)
    rw [List.getElem?_eq_getElem hi, Option.some.injEq] at e
    subst e
    rw [List.getD_eq_getElem?_getD, List.getElem?_eq_getElem (by rw [← a1]; exact hi)]
    exact hy
  · obtain ⟨y, e, hy⟩ := b2 i (by rw [← b1]; exact hi)
    rw [List.getElem?_eq_getElem hi, Option.some.injEq] at e
    subst e
    have hi2 : i < m.herds.length := by rw [← hl, ← b1]; exact hi
    rw [List.getD_eq_getElem?_getD, List.getElem?_eq_getElem hi2]
    simpa [leavesL] using hy
theorem legs_len {m : Mb} (hv : validM m = true) : (prodL m.legs).length ≤ 243 := by
  have hl := validM_len hv
  refine Nat.le_trans (prodL_len 3 m.legs fun p hp => ?_) ?_
  · obtain ⟨i, hi, rfl⟩ := List.mem_iff_getElem.1 hp
    have := validM_leg hv hi
    rw [List.getD_eq_getElem?_getD, List.getElem?_eq_getElem hi] at this
    simp only [Option.getD_some] at this
    omega
  · exact Nat.le_trans (Nat.pow_le_pow_right (by omega) (show m.legs.length ≤ 5 by omega)) (by decide)
theorem leaves_len {m : Mb} (hv : validM m = true) : (prodL (leavesL m)).length ≤ 256 := by
  have hl := validM_len hv
  refine Nat.le_trans (prodL_len 4 (leavesL m) fun p hp => ?_) ?_
  · unfold leavesL at hp
    obtain ⟨q, hq, rfl⟩ := List.mem_map.1 hp
    obtain ⟨i, hi, rfl⟩ := List.mem_iff_getElem.1 hq
    have := validM_herd hv hi
    rw [List.getD_eq_getElem?_getD, List.getElem?_eq_getElem hi] at this
    simp only [Option.getD_some] at this
    omega
  · have h4 : (leavesL m).length ≤ 4 := by unfold leavesL; rw [List.length_map]; omega
    exact Nat.le_trans (Nat.pow_le_pow_right (by omega) h4) (by decide)
/-- Truths in a row: a list of legs, and one of days, each. -/
def TruthsAt (w : World) (v : Value) (T : List (List Int × List Int)) : Prop :=
  ∃ a c, v = .slice a T.length c ∧ ∀ i, (h : i < T.length) → ∃ g o y z, a = some ⟨g, o, none⟩ ∧ w.cell? ⟨g, o + i * 2, none⟩ = some y ∧ w.cell? ⟨g, o + i * 2 + 1, none⟩ = some z ∧ IntRow w y (T[i]).1 ∧ IntRow w z (T[i]).2
end Go.Proofs.YteeinehpneppnaaGreat
