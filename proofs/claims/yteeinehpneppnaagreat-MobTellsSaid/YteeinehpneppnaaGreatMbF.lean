/- shearworksref01: lists: all lists with an integer of each span. -/
import Derived.Test.YteeinehpneppnaaGreatMbE
set_option linter.unusedVariables false
set_option linter.unusedSimpArgs false
namespace Go.Proofs.YteeinehpneppnaaGreat
open Go.RowKit Go.Proofs
attribute [local irreducible] Ord.walk
/-- Blocks below a number, and those that hold no elements of a type, are as they were. -/
structure KeepT (base : Nat) (t : TypeId) (w w' : World) : Prop where
  os : w'.os = w.os
  tape : w'.tape = w.tape
  output : w'.output = w.output
  size : w.heap.size ≤ w'.heap.size
  block : ∀ k, k < w.heap.size → (k < base ∨ ∀ cur, w.heap[k]? ≠ some (.cells cur t (0, 0))) → w'.heap[k]? = w.heap[k]?
namespace KeepT
variable {base : Nat} {t : TypeId} {w w' w'' : World}
theorem refl (base : Nat) (t : TypeId) (w : World) : KeepT base t w w := ⟨rfl, rfl, rfl, Nat.le_refl _, fun _ _ _ => rfl⟩
theorem trans (h : KeepT base t w w') (k : KeepT base t w' w'') : KeepT base t w w'' :=
  ⟨k.os.trans h.os, k.tape.trans h.tape, k.output.trans h.output, Nat.le_trans h.size k.size, fun i hi hc => by
    have e := h.block i hi hc
    refine (k.block i (by have := h.size; omega) ?_).trans e
    rcases hc with hc | hc
    · exact .inl hc
    · exact .inr fun cur => by rw [e]; exact hc cur⟩
theorem of_below (h : Below w.heap.size w w') : KeepT base t w w' := ⟨h.os, h.tape, h.output, h.size, fun k hk _ => h.block k hk⟩
theorem of_grown {size n : Nat} {v : Value} {xs : List Value} (ho : w.ownsRow base t size v n xs) (h : w.grownBy w' v.ownBlock) : KeepT base t w w' :=
  ⟨h.os, h.tape, h.output, h.size, fun k hk hc => by
    refine h.block k hk fun e => ?_
    obtain ⟨-, ⟨rfl, -⟩ | ⟨g, cap, cur, rfl, hg, hh, -⟩⟩ := ho
    · cases e
    · simp only [Value.ownBlock, Option.some.injEq] at e
      subst e
      rcases hc with hc | hc
      · omega
      · exact hc _ hh⟩
theorem alloc (h : KeepT base t w w') (o : Obj) : KeepT base t w (w'.alloc o) := h.trans (of_below ((Below.refl _ _).alloc (Nat.le_refl _) _))
theorem below (h : KeepT base t w w') (hb : base ≤ w.heap.size) : Below base w w' := ⟨h.os, h.tape, h.output, h.size, fun k hk => h.block k (by omega) (.inl hk)⟩
end KeepT
/-- A list of ints in a block of its own. -/
def IntRow (w : World) (v : Value) (l : List Int) : Prop :=
  ∃ a c, v = .slice a l.length c ∧ (l = [] ∨ ∃ g cur, a = some ⟨g, 0, none⟩ ∧ w.heap[g]? = some (.cells cur 3 (0, 0)) ∧ ∀ i, (h : i < l.length) → cur[i]? = some (.int .i64 l[i]))
theorem IntRow.keep {w w' : World} {base t : Nat} {v : Value} {l : List Int} (h : IntRow w v l) (hk : KeepT base t w w') (ht : 3 ≠ t) : IntRow w' v l := by
  obtain ⟨a, c, rfl, h1 | ⟨g, cur, rfl, hg, hc⟩⟩ := h
  · exact ⟨a, c, rfl, .inl h1⟩
  · refine ⟨_, c, rfl, .inr ⟨g, cur, rfl, ?_, hc⟩⟩
    refine (hk.block g (Array.getElem?_eq_some_iff.1 hg).1 (.inr fun cur' e => ?_)).trans hg
    rw [hg] at e
    simp only [Option.some.injEq, Obj.cells.injEq] at e
    exact ht e.2.1
theorem IntRow.ints {w : World} {v : Value} {l : List Int} (h : IntRow w v l) : ∃ a c, v = .slice a l.length c ∧ IntsM w a l := by
  obtain ⟨a, c, rfl, h1 | ⟨g, cur, rfl, hg, hc⟩⟩ := h
  · exact ⟨a, c, rfl, fun i hi => by subst h1; exact absurd hi (by simp)⟩
  · refine ⟨_, c, rfl, fun i hi => ⟨g, 0, rfl, fun j u hj => ?_⟩⟩
    have hj0 : j = 0 := by
      have := (List.getElem?_eq_some_iff.1 hj).1
      simp [itc] at this; omega
    subst hj0
    simp only [itc, List.getElem?_cons_zero, Option.some.injEq] at hj
    subst hj
    rw [cell_of_row w g _ cur 3 (0, 0) hg]
    simpa using hc i hi
def icell (x : Int) : Value := .int .i64 x
theorem IntRow.src {w : World} {v : Value} {l : List Int} (h : IntRow w v l) : SrcAt w v l.length 1 (l.map icell) := by
  obtain ⟨a, c, rfl, h1 | ⟨g, cur, rfl, hg, hc⟩⟩ := h
  · subst h1
    refine ⟨rfl, ?_⟩
    cases a with
    | none => exact .inl ⟨c, rfl, rfl⟩
    | some ad => exact .inr ⟨ad, c, rfl, fun j u hj => by cases hj⟩
  · refine ⟨by simp, .inr ⟨_, c, rfl, fun j u hj => ?_⟩⟩
    rw [Addr.add_lit, cell_of_row w g _ cur 3 (0, 0) hg]
    rw [List.getElem?_map] at hj
    have hjl : j < l.length := by
      rcases Nat.lt_or_ge j l.length with h | h
      · exact h
      · rw [List.getElem?_eq_none h] at hj; cases hj
    rw [List.getElem?_eq_getElem hjl] at hj
    simp only [Option.map_some, Option.some.injEq, icell] at hj
    subst hj
    simpa using hc j hjl
theorem IntRow.of_own {w : World} {base : Nat} {v : Value} {l : List Int} (h : w.ownsRow base 3 1 v l.length (l.map icell)) : IntRow w v l := by
  obtain ⟨hl, ⟨rfl, h0⟩ | ⟨g, cap, cur, rfl, hg, hh, hn, hc, hs, ht⟩⟩ := h
  · have : l = [] := List.eq_nil_of_length_eq_zero h0
    subst this
    exact ⟨none, 0, rfl, .inl rfl⟩
  · refine ⟨_, cap, rfl, .inr ⟨g, cur, rfl, hh, fun i hi => ?_⟩⟩
    have h2 : (cur.toList.take (l.length * 1))[i]? = (l.map icell)[i]? := by rw [ht]
    rw [List.getElem?_take, if_pos (by omega), List.getElem?_map, List.getElem?_eq_getElem hi] at h2
    simpa [icell] using h2
/-- Lists in a row. -/
def SlicesAt (w : World) (ys : List Value) (ll : List (List Int)) : Prop := ys.length = ll.length ∧ ∀ i, (h : i < ll.length) → ∃ y, ys[i]? = some y ∧ IntRow w y ll[i]
theorem SlicesAt.keep {w w' : World} {base t : Nat} {ys : List Value} {ll : List (List Int)} (h : SlicesAt w ys ll) (hk : KeepT base t w w') (ht : 3 ≠ t) : SlicesAt w' ys ll :=
  ⟨h.1, fun i hi => by obtain ⟨y, h1, h2⟩ := h.2 i hi; exact ⟨y, h1, h2.keep hk ht⟩⟩
theorem SlicesAt.append {w : World} {ys zs : List Value} {l1 l2 : List (List Int)} (h : SlicesAt w ys l1) (k : SlicesAt w zs l2) : SlicesAt w (ys ++ zs) (l1 ++ l2) := by
  refine ⟨by rw [List.length_append, List.length_append, h.1, k.1], fun i hi => ?_⟩
  rcases Nat.lt_or_ge i l1.length with hlt | hge
  · obtain ⟨y, h1, h2⟩ := h.2 i hlt
    refine ⟨y, ?_, ?_⟩
    · rw [List.getElem?_append_left (by rw [h.1]; exact hlt)]; exact h1
    · rw [List.getElem_append_left hlt]; exact h2
  · have hi2 : i - l1.length < l2.length := by rw [List.length_append] at hi; omega
    obtain ⟨y, h1, h2⟩ := k.2 (i - l1.length) hi2
    refine ⟨y, ?_, ?_⟩
    · rw [List.getElem?_append_right (by rw [h.1]; exact hge), h.1]; exact h1
    · rw [List.getElem_append_right hge]; exact h2
def rangeI (lo hi : Int) : List Int := (List.range (hi - lo + 1).toNat).map fun k : Nat => lo + (k : Int)
def prodL : List (Int × Int) → List (List Int)
  | [] => [[]]
  | p :: r => (rangeI p.1 p.2).flatMap fun k => (prodL r).map (k :: ·)
/-- What lists adds. -/
def extL (l : List (Int × Int)) (b : List Int) : List (List Int) := (prodL (l.drop b.length)).map (b ++ ·)
theorem extL_done {l : List (Int × Int)} {b : List Int} (h : b.length = l.length) : extL l b = [b] := by
  unfold extL; rw [h, List.drop_length]; simp [prodL]
def accL (l : List (Int × Int)) (b : List Int) (lo : Int) (j : Nat) : List (List Int) := (List.range j).flatMap fun k : Nat => extL l (b ++ [lo + (k : Int)])
theorem accL_succ (l : List (Int × Int)) (b : List Int) (lo : Int) (j : Nat) : accL l b lo (j + 1) = accL l b lo j ++ extL l (b ++ [lo + (j : Int)]) := by
  unfold accL; rw [List.range_succ, List.flatMap_append]; simp
theorem extL_more {l : List (Int × Int)} {b : List Int} (h : b.length < l.length) : extL l b = accL l b (l[b.length]).1 ((l[b.length]).2 - (l[b.length]).1 + 1).toNat := by
  unfold extL accL
  rw [List.drop_eq_getElem_cons h, prodL, List.map_flatMap]
  unfold rangeI
  rw [List.flatMap_map]
  congr 1
  funext k
  unfold extL
  rw [List.map_map, List.length_append]
  simp [Function.comp_def]
def ListsPost (base : Nat) (v : Value) (xs : List Value) (ll : List (List Int)) (w : World) (e : Ending) (w' : World) : Prop :=
  ∃ v' ys, e = .returned v' ∧ w'.ownsRow base 72 1 v' (xs.length + ll.length) (xs ++ ys) ∧ SlicesAt w' ys ll ∧ KeepT base 72 w w'
end Go.Proofs.YteeinehpneppnaaGreat
