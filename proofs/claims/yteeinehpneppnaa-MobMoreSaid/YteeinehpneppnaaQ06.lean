/- Parts of a proof: MbD, MbE, MbF, MbG, MbH, MbI, MbJ. -/
import Derived.Test.YteeinehpneppnaaQ05
import Derived.Deep.CutRange
set_option linter.unusedVariables false
set_option linter.unusedSimpArgs false
namespace Go.Proofs.Yteeinehpneppnaa
open Go.RowKit Go.Proofs
attribute [local irreducible] Ord.walk
def itc (x : Int) : List Value := [.int .i64 x]
abbrev IntsM (w : World) (a : Option Addr) (l : List Int) : Prop := RowsAt w a 1 itc l
def waterB (m : Mb) (p : Nat) : Bool := ((m.places[p]?).getD (false, 0)).1
def restI (m : Mb) (p : Nat) : Int := ((m.places[p]?).getD (false, 0)).2
/-- How long a mob stays at a place, k places behind its start. -/
def stayK (m : Mb) (s k : Nat) : Int := if 0 < k ∧ waterB m (s + k) = true then restI m (s + k) else 0
/-- On which day a mob comes to the place that is k places behind its start. -/
def inK (m : Mb) (L : List Int) (s : Nat) (d : Int) : Nat → Int
  | 0 => d
  | k + 1 => inK m L s d k + stayK m s k + L.getD (s + k) 0
def onK (m : Mb) (L : List Int) (s : Nat) (d : Int) (k : Nat) : Int := inK m L s d k + stayK m s k
/-- A truth that can be. -/
structure TrOk (m : Mb) (L D : List Int) : Prop where
  legs : L.length = m.legs.length
  leaves : D.length = m.herds.length
  legIn : ∀ i, (h : i < L.length) → (m.legs.getD i (0, 0)).1 ≤ L[i] ∧ L[i] ≤ (m.legs.getD i (0, 0)).2
  dayIn : ∀ i, (h : i < D.length) → (m.herds.getD i (0, 0, 0, 0)).2.1 ≤ D[i] ∧ D[i] ≤ (m.herds.getD i (0, 0, 0, 0)).2.2.1
theorem validM_head {m : Mb} (h : validM m = true) : headM m = true := by unfold validM at h; rw [Bool.and_eq_true] at h; exact h.1
theorem validM_len {m : Mb} (h : validM m = true) : 2 ≤ m.places.length ∧ m.places.length ≤ 6 ∧ m.legs.length + 1 = m.places.length ∧ m.herds.length ≤ 4 ∧ m.seen.length ≤ 5 := by
  have h1 := validM_head h
  unfold headM at h1
  simp only [Bool.and_eq_true, decide_eq_true_eq] at h1
  obtain ⟨a, b, c, d⟩ := h1
  have := inB_of a
  omega
theorem validM_Mlen {m : Mb} (h : validM m = true) : Mlen m := by
  have := validM_len h
  exact ⟨by omega, by omega, by omega, by omega⟩
theorem validM_rest {m : Mb} (h : validM m = true) (p : Nat) : 0 ≤ restI m p ∧ restI m p ≤ 3 := by
  unfold restI
  cases hp : m.places[p]? with
  | none => simp
  | some x =>
    unfold validM at h
    simp only [Bool.and_eq_true] at h
    have := List.all_eq_true.1 h.2.1 x (List.mem_of_getElem? hp)
    exact inB_of this
theorem validM_leg {m : Mb} (h : validM m = true) {i : Nat} (hi : i < m.legs.length) : 1 ≤ (m.legs.getD i (0, 0)).1 ∧ (m.legs.getD i (0, 0)).1 ≤ (m.legs.getD i (0, 0)).2 ∧ (m.legs.getD i (0, 0)).2 ≤ 5 ∧ (m.legs.getD i (0, 0)).2 - (m.legs.getD i (0, 0)).1 ≤ 2 := by
  unfold validM at h
  simp only [Bool.and_eq_true] at h
  have h1 := List.all_eq_true.1 h.2.2.1 _ (List.getElem_mem hi)
  rw [List.getD_eq_getElem?_getD, List.getElem?_eq_getElem hi]
  simpa [lgOk, spanM] using h1
theorem validM_herd {m : Mb} (h : validM m = true) {i : Nat} (hi : i < m.herds.length) : 0 ≤ (m.herds.getD i (0, 0, 0, 0)).1 ∧ (m.herds.getD i (0, 0, 0, 0)).1 ≤ (m.places.length : Int) - 2 ∧ 0 ≤ (m.herds.getD i (0, 0, 0, 0)).2.1 ∧ (m.herds.getD i (0, 0, 0, 0)).2.1 ≤ (m.herds.getD i (0, 0, 0, 0)).2.2.1 ∧ (m.herds.getD i (0, 0, 0, 0)).2.2.1 ≤ 30 ∧
    (m.herds.getD i (0, 0, 0, 0)).2.2.1 - (m.herds.getD i (0, 0, 0, 0)).2.1 ≤ 3 ∧ 0 ≤ (m.herds.getD i (0, 0, 0, 0)).2.2.2 ∧ (m.herds.getD i (0, 0, 0, 0)).2.2.2 ≤ 20 := by
  unfold validM at h
  simp only [Bool.and_eq_true] at h
  have h1 := List.all_eq_true.1 h.2.2.2.1 _ (List.getElem_mem hi)
  rw [List.getD_eq_getElem?_getD, List.getElem?_eq_getElem hi]
  simp only [hdOk, Bool.and_eq_true] at h1
  have h2 := inB_of h1.1
  have h3 := inB_of h1.2.2
  have h4 := h1.2.1
  simp only [spanM, decide_eq_true_eq] at h4
  simp only [Option.getD_some]
  omega
theorem stay_in {m : Mb} (hv : validM m = true) (s k : Nat) : 0 ≤ stayK m s k ∧ stayK m s k ≤ 3 := by
  unfold stayK
  split
  · exact validM_rest hv _
  · omega
theorem leg_in {m : Mb} (hv : validM m = true) {L D : List Int} (ht : TrOk m L D) (i : Nat) : 0 ≤ L.getD i 0 ∧ L.getD i 0 ≤ 5 := by
  rw [List.getD_eq_getElem?_getD]
  by_cases hi : i < L.length
  · have h1 := ht.legIn i hi
    have h2 := validM_leg hv (i := i) (by rw [← ht.legs]; exact hi)
    rw [List.getElem?_eq_getElem hi, Option.getD_some]
    omega
  · rw [List.getElem?_eq_none (by omega)]; simp
theorem inK_in {m : Mb} (hv : validM m = true) {L D : List Int} (ht : TrOk m L D) (s : Nat) {d : Int} (h0 : 0 ≤ d) (h1 : d ≤ 30) : ∀ k, 0 ≤ inK m L s d k ∧ inK m L s d k ≤ 30 + 8 * (k : Int)
  | 0 => by simp only [inK]; omega
  | k + 1 => by
    have ih := inK_in hv ht s h0 h1 k
    have h2 := stay_in hv s k
    have h3 := leg_in hv ht (s + k)
    simp only [inK]
    omega
section
variable {m : Mb} {A : Ma} {L D : List Int} {la : Option Addr} {lc : Nat} {da : Option Addr} {dc : Nat} {h s : Nat} {w : World}
end
end Go.Proofs.Yteeinehpneppnaa
set_option linter.unusedVariables false
set_option linter.unusedSimpArgs false
namespace Go.Proofs.Yteeinehpneppnaa
open Go.RowKit Go.Proofs
attribute [local irreducible] Ord.walk
def startN (m : Mb) (h : Nat) : Nat := (startI m h).toNat
/-- On which day a mob comes to a place. -/
def dayAt (m : Mb) (L D : List Int) (h p : Nat) : Int := inK m L (startN m h) (D.getD h 0) (p - startN m h)
theorem startN_eq {m : Mb} (hv : validM m = true) {h : Nat} (hh : h < m.herds.length) : (m.herds[h]).1 = (startN m h : Int) ∧ startN m h + 2 ≤ m.places.length := by
  have h1 := validM_herd hv hh
  rw [List.getD_eq_getElem?_getD, List.getElem?_eq_getElem hh, Option.getD_some] at h1
  have h2 : startI m h = (m.herds[h]).1 := by unfold startI; simp [hh]
  unfold startN
  rw [h2]
  omega
/-- Is this right that was seen? -/
def seenB (m : Mb) (L D : List Int) (s : Int × Int × Int × Int) : Bool := inB (dayAt m L D s.1.toNat s.2.1.toNat) s.2.2.1 s.2.2.2
def rightTo (m : Mb) (L D : List Int) (set : Nat) (k : Nat) : Bool := (List.range k).all fun i => !hasB set i || seenB m L D (m.seen.getD i (0, 0, 0, 0))
def rightM (m : Mb) (L D : List Int) (set : Nat) : Bool := rightTo m L D set m.seen.length
theorem validM_seen {m : Mb} (h : validM m = true) {i : Nat} (hi : i < m.seen.length) : 0 ≤ (m.seen[i]).1 ∧ (m.seen[i]).1 < m.herds.length ∧ 0 ≤ (m.seen[i]).2.1 ∧ (m.seen[i]).2.1 < m.places.length ∧ startI m (m.seen[i]).1 ≤ (m.seen[i]).2.1 ∧ 0 ≤ (m.seen[i]).2.2.1 ∧ (m.seen[i]).2.2.1 ≤ (m.seen[i]).2.2.2 ∧ (m.seen[i]).2.2.2 ≤ 100 := by
  unfold validM at h
  simp only [Bool.and_eq_true] at h
  have h1 := List.all_eq_true.1 h.2.2.2.2 _ (List.getElem_mem hi)
  simp only [snOk, fromB, Bool.and_eq_true, decide_eq_true_eq] at h1
  have h2 := inB_of h1.1.1
  have h3 := inB_of h1.1.2.1
  have h4 := h1.2
  simp only [spanM, decide_eq_true_eq] at h4
  have h5 := h1.1.2.2
  omega
end Go.Proofs.Yteeinehpneppnaa
set_option linter.unusedVariables false
set_option linter.unusedSimpArgs false
namespace Go.Proofs.Yteeinehpneppnaa
open Go.RowKit Go.Proofs
attribute [local irreducible] Ord.walk
/-- Blocks below a number, and those that hold no elements of a type, are as they were. -/
structure KeepT (base : Nat) (t : TypeId) (w w' : World) : Prop where
  os : w'.os = w.os
  tape : w'.tape = w.tape
  output : w'.output = w.output
  size : w.heap.size ≤ w'.heap.size
  block : ∀ k, k < w.heap.size → (k < base ∨ ∀ cur, w.heap[k]? ≠ some (.cells cur t (0, 0))) → w'.heap[k]? = w.heap[k]?
namespace KeepT
variable {base : Nat} {t : TypeId} {w w' w'' : World}
theorem refl (base : Nat) (t : TypeId) (w : World) : KeepT base t w w := ⟨rfl, rfl, rfl, Nat.le_refl _, fun _ _ _ => rfl⟩
theorem trans (h : KeepT base t w w') (k : KeepT base t w' w'') : KeepT base t w w'' :=
  ⟨k.os.trans h.os, k.tape.trans h.tape, k.output.trans h.output, Nat.le_trans h.size k.size, fun i hi hc => by
    have e := h.block i hi hc
    refine (k.block i (by have := h.size; omega) ?_).trans e
    rcases hc with hc | hc
    · exact .inl hc
    · exact .inr fun cur => by rw [e]; exact hc cur⟩
theorem of_below (h : Below w.heap.size w w') : KeepT base t w w' := ⟨h.os, h.tape, h.output, h.size, fun k hk _ => h.block k hk⟩
theorem alloc (h : KeepT base t w w') (o : Obj) : KeepT base t w (w'.alloc o) := h.trans (of_below ((Below.refl _ _).alloc (Nat.le_refl _) _))
theorem below (h : KeepT base t w w') (hb : base ≤ w.heap.size) : Below base w w' := ⟨h.os, h.tape, h.output, h.size, fun k hk => h.block k (by omega) (.inl hk)⟩
end KeepT
/-- A list of ints in a block of its own. -/
def IntRow (w : World) (v : Value) (l : List Int) : Prop :=
  ∃ a c, v = .slice a l.length c ∧ (l = [] ∨ ∃ g cur, a = some ⟨g, 0, none⟩ ∧ w.heap[g]? = some (.cells cur 3 (0, 0)) ∧ ∀ i, (h : i < l.length) → cur[i]? = some (.int .i64 l[i]))
theorem IntRow.keep {w w' : World} {base t : Nat} {v : Value} {l : List Int} (h : IntRow w v l) (hk : KeepT base t w w') (ht : 3 ≠ t) : IntRow w' v l := by
  obtain ⟨a, c, rfl, h1 | ⟨g, cur, rfl, hg, hc⟩⟩ := h
  · exact ⟨a, c, rfl, .inl h1⟩
  · refine ⟨_, c, rfl, .inr ⟨g, cur, rfl, ?_, hc⟩⟩
    refine (hk.block g (Array.getElem?_eq_some_iff.1 hg).1 (.inr fun cur' e => ?_)).trans hg
    rw [hg] at e
    simp only [Option.some.injEq, Obj.cells.injEq] at e
    exact ht e.2.1
theorem IntRow.ints {w : World} {v : Value} {l : List Int} (h : IntRow w v l) : ∃ a c, v = .slice a l.length c ∧ IntsM w a l := by
  obtain ⟨a, c, rfl, h1 | ⟨g, cur, rfl, hg, hc⟩⟩ := h
  · exact ⟨a, c, rfl, fun i hi => by subst h1; exact absurd hi (by simp)⟩
  · refine ⟨_, c, rfl, fun i hi => ⟨g, 0, rfl, fun j u hj => ?_⟩⟩
    have hj0 : j = 0 := by
      have := (List.getElem?_eq_some_iff.1 hj).1
      simp [itc] at this; omega
    subst hj0
    simp only [itc, List.getElem?_cons_zero, Option.some.injEq] at hj
    subst hj
    rw [cell_of_row w g _ cur 3 (0, 0) hg]
    simpa using hc i hi
def icell (x : Int) : Value := .int .i64 x
theorem IntRow.src {w : World} {v : Value} {l : List Int} (h : IntRow w v l) : SrcAt w v l.length 1 (l.map icell) := by
  obtain ⟨a, c, rfl, h1 | ⟨g, cur, rfl, hg, hc⟩⟩ := h
  · subst h1
    refine ⟨rfl, ?_⟩
    cases a with
    | none => exact .inl ⟨c, rfl, rfl⟩
    | some ad => exact .inr ⟨ad, c, rfl, fun j u hj => by cases hj⟩
  · refine ⟨by simp, .inr ⟨_, c, rfl, fun j u hj => ?_⟩⟩
    rw [Addr.add_lit, cell_of_row w g _ cur 3 (0, 0) hg]
    rw [List.getElem?_map] at hj
    have hjl : j < l.length := by
      rcases Nat.lt_or_ge j l.length with h | h
      · exact h
      · rw [List.getElem?_eq_none h] at hj; cases hj
    rw [List.getElem?_eq_getElem hjl] at hj
    simp only [Option.map_some, Option.some.injEq, icell] at hj
    subst hj
    simpa using hc j hjl
theorem IntRow.of_own {w : World} {base : Nat} {v : Value} {l : List Int} (h : w.ownsRow base 3 1 v l.length (l.map icell)) : IntRow w v l := by
  obtain ⟨hl, ⟨rfl, h0⟩ | ⟨g, cap, cur, rfl, hg, hh, hn, hc, hs, ht⟩⟩ := h
  · have : l = [] := List.eq_nil_of_length_eq_zero h0
    subst this
    exact ⟨none, 0, rfl, .inl rfl⟩
  · refine ⟨_, cap, rfl, .inr ⟨g, cur, rfl, hh, fun i hi => ?_⟩⟩
    have h2 : (cur.toList.take (l.length * 1))[i]? = (l.map icell)[i]? := by rw [ht]
    rw [List.getElem?_take, if_pos (by omega), List.getElem?_map, List.getElem?_eq_getElem hi] at h2
    simpa [icell] using h2
/-- Lists in a row. -/
def SlicesAt (w : World) (ys : List Value) (ll : List (List Int)) : Prop := ys.length = ll.length ∧ ∀ i, (h : i < ll.length) → ∃ y, ys[i]? = some y ∧ IntRow w y ll[i]
theorem SlicesAt.keep {w w' : World} {base t : Nat} {ys : List Value} {ll : List (List Int)} (h : SlicesAt w ys ll) (hk : KeepT base t w w') (ht : 3 ≠ t) : SlicesAt w' ys ll :=
  ⟨h.1, fun i hi => by obtain ⟨y, h1, h2⟩ := h.2 i hi; exact ⟨y, h1, h2.keep hk ht⟩⟩
theorem SlicesAt.append {w : World} {ys zs : List Value} {l1 l2 : List (List Int)} (h : SlicesAt w ys l1) (k : SlicesAt w zs l2) : SlicesAt w (ys ++ zs) (l1 ++ l2) := by
  refine ⟨by rw [List.length_append, List.length_append, h.1, k.1], fun i hi => ?_⟩
  rcases Nat.lt_or_ge i l1.length with hlt | hge
  · obtain ⟨y, h1, h2⟩ := h.2 i hlt
    refine ⟨y, ?_, ?_⟩
    · rw [List.getElem?_append_left (by rw [h.1]; exact hlt)]; exact h1
    · rw [List.getElem_append_left hlt]; exact h2
  · have hi2 : i - l1.length < l2.length := by rw [List.length_append] at hi; omega
    obtain ⟨y, h1, h2⟩ := k.2 (i - l1.length) hi2
    refine ⟨y, ?_, ?_⟩
    · rw [List.getElem?_append_right (by rw [h.1]; exact hge), h.1]; exact h1
    · rw [List.getElem_append_right hge]; exact h2
def rangeI (lo hi : Int) : List Int := (List.range (hi - lo + 1).toNat).map fun k : Nat => lo + (k : Int)
def prodL : List (Int × Int) → List (List Int)
  | [] => [[]]
  | p :: r => (rangeI p.1 p.2).flatMap fun k => (prodL r).map (k :: ·)
/-- What lists adds. -/
def extL (l : List (Int × Int)) (b : List Int) : List (List Int) := (prodL (l.drop b.length)).map (b ++ ·)
theorem extL_done {l : List (Int × Int)} {b : List Int} (h : b.length = l.length) : extL l b = [b] := by
  unfold extL; rw [h, List.drop_length]; simp [prodL]
def accL (l : List (Int × Int)) (b : List Int) (lo : Int) (j : Nat) : List (List Int) := (List.range j).flatMap fun k : Nat => extL l (b ++ [lo + (k : Int)])
theorem accL_succ (l : List (Int × Int)) (b : List Int) (lo : Int) (j : Nat) : accL l b lo (j + 1) = accL l b lo j ++ extL l (b ++ [lo + (j : Int)]) := by
  unfold accL; rw [List.range_succ, List.flatMap_append]; simp
theorem extL_more {l : List (Int × Int)} {b : List Int} (h : b.length < l.length) : extL l b = accL l b (l[b.length]).1 ((l[b.length]).2 - (l[b.length]).1 + 1).toNat := by
  unfold extL accL
  rw [List.drop_eq_getElem_cons h, prodL, List.map_flatMap]
  unfold rangeI
  rw [List.flatMap_map]
  congr 1
  funext k
  unfold extL
  rw [List.map_map, List.length_append]
  simp [Function.comp_def]
end Go.Proofs.Yteeinehpneppnaa
set_option linter.unusedVariables false
set_option linter.unusedSimpArgs false
namespace Go.Proofs.Yteeinehpneppnaa
open Go.RowKit Go.Proofs
attribute [local irreducible] Ord.walk
theorem info_of {P : Program} {t : TypeId} {z : Value} {s b : Nat} (h : (P.info? t).map (fun i => (i.zero, i.size, i.bytes)) = some (some z, s, b)) : ∃ i, P.info? t = some i ∧ i.zero = some z ∧ i.size = s ∧ i.bytes = b := by
  cases hi : P.info? t with
  | none => rw [hi] at h; cases h
  | some i =>
    rw [hi] at h
    simp only [Option.map_some, Option.some.injEq, Prod.mk.injEq] at h
    exact ⟨i, rfl, h.1, h.2.1, h.2.2⟩
end Go.Proofs.Yteeinehpneppnaa
set_option linter.unusedVariables false
set_option linter.unusedSimpArgs false
namespace Go.Proofs.Yteeinehpneppnaa
open Go.RowKit Go.Proofs
attribute [local irreducible] Ord.walk
theorem mem_rangeI {lo hi x : Int} : x ∈ rangeI lo hi ↔ lo ≤ x ∧ x ≤ hi := by
  unfold rangeI
  rw [List.mem_map]
  constructor
  · rintro ⟨k, hk, rfl⟩
    have := List.mem_range.1 hk
    omega
  · rintro ⟨h1, h2⟩
    exact ⟨(x - lo).toNat, List.mem_range.2 (by omega), by omega⟩
theorem rangeI_len (lo hi : Int) : (rangeI lo hi).length = (hi - lo + 1).toNat := by unfold rangeI; simp
theorem mem_prodL : ∀ (l : List (Int × Int)) (x : List Int), x ∈ prodL l ↔ x.length = l.length ∧ ∀ i, (h : i < l.length) → ∃ y, x[i]? = some y ∧ (l[i]).1 ≤ y ∧ y ≤ (l[i]).2
  | [], x => by
    simp only [prodL, List.mem_singleton, List.length_nil]
    constructor
    · rintro rfl; exact ⟨rfl, fun i h => absurd h (by simp)⟩
    · rintro ⟨h, _⟩; exact List.eq_nil_of_length_eq_zero h
  | p :: r, x => by
    simp only [prodL, List.mem_flatMap, List.mem_map]
    constructor
    · rintro ⟨k, hk, z, hz, rfl⟩
      obtain ⟨h1, h2⟩ := (mem_prodL r z).1 hz
      refine ⟨by simp [h1], fun i hi => ?_⟩
      cases i with
      | zero => exact ⟨k, rfl, mem_rangeI.1 hk⟩
      | succ i =>
        have hi' : i < r.length := by simpa using hi
        obtain ⟨y, e, hy⟩ := h2 i hi'
        exact ⟨y, by simpa using e, by simpa using hy⟩
    · rintro ⟨h1, h2⟩
      cases x with
      | nil => simp at h1
      | cons k z =>
        obtain ⟨y, e, hy⟩ := h2 0 (by simp)
        simp only [List.getElem?_cons_zero, Option.some.injEq] at e
        subst e
        refine ⟨k, mem_rangeI.2 hy, z, (mem_prodL r z).2 ⟨by simpa using h1, fun i hi => ?_⟩, rfl⟩
        obtain ⟨y, e, hy⟩ := h2 (i + 1) (by simpa using hi)
        exact ⟨y, by simpa using e, by simpa using hy⟩
theorem prodL_len (W : Nat) : ∀ (l : List (Int × Int)), (∀ p ∈ l, (p.2 - p.1 + 1).toNat ≤ W) → (prodL l).length ≤ W ^ l.length
  | [], _ => by simp [prodL]
  | p :: r, h => by
    have ih := prodL_len W r (fun q hq => h q (by simp [hq]))
    have h1 := h p (by simp)
    rw [← rangeI_len] at h1
    rw [prodL, List.length_cons, Nat.pow_succ, Nat.mul_comm]
    have : ∀ (ks : List Int), (ks.flatMap fun k => (prodL r).map (k :: ·)).length = ks.length * (prodL r).length := fun ks => by
      induction ks with
      | nil => simp
      | cons k ks ihk => rw [List.flatMap_cons, List.length_append, ihk, List.length_map, List.length_cons, Nat.succ_mul]; omega
    rw [this]
    exact Nat.mul_le_mul h1 ih
/-- When mobs can leave. -/
def leavesL (m : Mb) : List (Int × Int) := m.herds.map fun h => (h.2.1, h.2.2.1)
/-- All truths, by what of a set was seen. -/
def truthsM (m : Mb) (set : Nat) : List (List Int × List Int) := (prodL m.legs).flatMap fun L => ((prodL (leavesL m)).filter fun D => rightM m L D set).map fun D => (L, D)
theorem trOk_of {m : Mb} {L D : List Int} (h1 : L ∈ prodL m.legs) (h2 : D ∈ prodL (leavesL m)) : TrOk m L D := by
  obtain ⟨a1, a2⟩ := (mem_prodL _ _).1 h1
  obtain ⟨b1, b2⟩ := (mem_prodL _ _).1 h2
  have hl : (leavesL m).length = m.herds.length := by unfold leavesL; simp
  refine ⟨a1, by rw [b1, hl], fun i hi => ?_, fun i hi => ?_⟩
  · obtain ⟨y, e, hy⟩ := a2 i (by rw [← a1]; exact hi)
    rw [List.getElem?_eq_getElem hi, Option.some.injEq] at e
    subst e
    rw [List.getD_eq_getElem?_getD, List.getElem?_eq_getElem (by rw [← a1]; exact hi)]
    exact hy
  · obtain ⟨y, e, hy⟩ := b2 i (by rw [← b1]; exact hi)
    rw [List.getElem?_eq_getElem hi, Option.some.injEq] at e
    subst e
    have hi2 : i < m.herds.length := by rw [← hl, ← b1]; exact hi
    rw [List.getD_eq_getElem?_getD, List.getElem?_eq_getElem hi2]
    simpa [leavesL] using hy
theorem legs_len {m : Mb} (hv : validM m = true) : (prodL m.legs).length ≤ 243 := by
  have hl := validM_len hv
  refine Nat.le_trans (prodL_len 3 m.legs fun p hp => ?_) ?_
  · obtain ⟨i, hi, rfl⟩ := List.mem_iff_getElem.1 hp
    have := validM_leg hv hi
    rw [List.getD_eq_getElem?_getD, List.getElem?_eq_getElem hi] at this
    simp only [Option.getD_some] at this
    omega
  · exact Nat.le_trans (Nat.pow_le_pow_right (by omega) (show m.legs.length ≤ 5 by omega)) (by decide)
/-- Truths in a row: a list of legs, and one of days, each. -/
def TruthsAt (w : World) (v : Value) (T : List (List Int × List Int)) : Prop :=
  ∃ a c, v = .slice a T.length c ∧ ∀ i, (h : i < T.length) → ∃ g o y z, a = some ⟨g, o, none⟩ ∧ w.cell? ⟨g, o + i * 2, none⟩ = some y ∧ w.cell? ⟨g, o + i * 2 + 1, none⟩ = some z ∧ IntRow w y (T[i]).1 ∧ IntRow w z (T[i]).2
end Go.Proofs.Yteeinehpneppnaa
set_option linter.unusedVariables false
set_option linter.unusedSimpArgs false
namespace Go.Proofs.Yteeinehpneppnaa
open Go.RowKit Go.Proofs
attribute [local irreducible] Ord.walk
theorem Try.info39 : (Try.prog.info? 39).map (fun i => (i.zero, i.size, i.bytes)) = some (some (.agg #[.int .i64 0, .int .i64 0]), 2, 16) := by kernel_rfl
theorem spc_get : ∀ (l : List (Int × Int)) (i : Nat) (h : i < l.length) (j : Nat), j < 2 → (l.flatMap spc)[i * 2 + j]? = (spc l[i])[j]?
  | [], i, h, j, hj => absurd h (by simp)
  | a :: l, 0, h, j, hj => by
    rw [List.flatMap_cons, List.getElem?_append_left (by simp [spc]; omega)]; simp
  | a :: l, i + 1, h, j, hj => by
    rw [List.flatMap_cons, List.getElem?_append_right (by simp [spc]; omega)]
    have : (i + 1) * 2 + j - (spc a).length = i * 2 + j := by simp [spc]; omega
    rw [this, spc_get l i (by simpa using h) j hj]
    simp
/-- An owned row of spans is a list that is read. -/
theorem own_spans {w : World} {base : Nat} {v : Value} {l : List (Int × Int)} (h : w.ownsRow base 39 2 v l.length (l.flatMap spc)) : ∃ a c, v = .slice a l.length c ∧ RowsAt w a 2 spc l ∧ (∀ gb go, a = some ⟨gb, go, none⟩ → base ≤ gb ∧ gb < w.heap.size) := by
  have h0 := h
  obtain ⟨hl, ⟨rfl, h1⟩ | ⟨g, cap, cur, rfl, hg, hh, hn, hc, hs, ht⟩⟩ := h
  · exact ⟨none, 0, by rw [h1], fun i hi => by omega, fun gb go e => by cases e⟩
  · refine ⟨_, cap, rfl, fun i hi => ⟨g, 0, rfl, fun j u hj => ?_⟩, fun gb go e => ?_⟩
    · have hj2 : j < 2 := by have := (List.getElem?_eq_some_iff.1 hj).1; simpa [spc] using this
      rw [Nat.zero_add, cell_of_row w g _ cur _ (0, 0) hh]
      have h2 := spc_get l i hi j hj2
      rw [hj, ← ht, List.getElem?_take, if_pos (by omega)] at h2
      simpa using h2
    · simp only [Option.some.injEq, Addr.mk.injEq] at e
      obtain ⟨rfl, -, -⟩ := e
      exact ⟨hg, (Array.getElem?_eq_some_iff.1 hh).1⟩
theorem own_any {w : World} {base n : Nat} {e : TypeId} {v : Value} {xs : List Value} {s : Nat} (h : w.ownsRow base e s v n xs) : ∃ a c, v = .slice a n c := by
  obtain ⟨hl, ⟨rfl, h0⟩ | ⟨g, cap, cur, rfl, hg, hh, hn, hc, hs, ht⟩⟩ := h
  · exact ⟨none, 0, by rw [h0]⟩
  · exact ⟨_, _, rfl⟩
/-- The cells of truths in a row. -/
def TRow (w : World) (cs : List Value) (T : List (List Int × List Int)) : Prop :=
  cs.length = T.length * 2 ∧ ∀ i, (h : i < T.length) → ∃ y z, cs[i * 2]? = some y ∧ cs[i * 2 + 1]? = some z ∧ IntRow w y (T[i]).1 ∧ IntRow w z (T[i]).2
theorem TRow.keep {w w' : World} {cs : List Value} {T : List (List Int × List Int)} {base t : Nat} (h : TRow w cs T) (hk : KeepT base t w w') (ht : 3 ≠ t) : TRow w' cs T :=
  ⟨h.1, fun i hi => by obtain ⟨y, z, e1, e2, h1, h2⟩ := h.2 i hi; exact ⟨y, z, e1, e2, h1.keep hk ht, h2.keep hk ht⟩⟩
theorem TRow.at {w : World} {base : Nat} {v : Value} {cs : List Value} {T : List (List Int × List Int)} (h : TRow w cs T) (ho : w.ownsRow base 98 2 v T.length cs) : TruthsAt w v T := by
  obtain ⟨a, c, rfl⟩ := own_any ho
  refine ⟨a, c, rfl, fun i hi => ?_⟩
  obtain ⟨g, c', e⟩ := own_slice ho (by omega)
  simp only [Value.slice.injEq] at e
  obtain ⟨rfl, -, rfl⟩ := e
  obtain ⟨y, z, e1, e2, h1, h2⟩ := h.2 i hi
  have c1 := ho.cells (g := g) rfl _ _ e1
  have c2 := ho.cells (g := g) rfl _ _ e2
  rw [Addr.add_lit] at c1 c2
  exact ⟨g, 0, y, z, rfl, c1, c2, h1, h2⟩
end Go.Proofs.Yteeinehpneppnaa
set_option linter.unusedVariables false
set_option linter.unusedSimpArgs false
namespace Go.Proofs.Yteeinehpneppnaa
open Go.RowKit Go.Proofs
attribute [local irreducible] Ord.walk
def everyN (m : Mb) : Nat := 2 ^ m.seen.length - 1
def TM (m : Mb) : List (List Int × List Int) := truthsM m (everyN m)
def knownE (m : Mb) (vb : Bool) : Int := if validM m = false then 1 else if vb = false then 2 else if TM m = [] then 10 else 0
end Go.Proofs.Yteeinehpneppnaa
