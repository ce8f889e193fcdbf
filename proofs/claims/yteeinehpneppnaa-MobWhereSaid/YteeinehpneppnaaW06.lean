/- Parts of a proof: MbF, MbG, MbH, MbI. -/
import Derived.Test.YteeinehpneppnaaW05
/- shearworksref01: lists: all lists with an integer of each span. -/
set_option linter.unusedVariables false
set_option linter.unusedSimpArgs false
namespace Go.Proofs.Yteeinehpneppnaa
open Go.RowKit Go.Proofs
attribute [local irreducible] Ord.walk
/-- Blocks below a number, and those that hold no elements of a type, are as they were. -/
structure KeepT (base : Nat) (t : TypeId) (w w' : World) : Prop where
  os : w'.os = w.os
  tape : w'.tape = w.tape
  output : w'.output = w.output
  size : w.heap.size ≤ w'.heap.size
  block : ∀ k, k < w.heap.size → (k < base ∨ ∀ cur, w.heap[k]? ≠ some (.cells cur t (0, 0))) → w'.heap[k]? = w.heap[k]?
namespace KeepT
variable {base : Nat} {t : TypeId} {w w' w'' : World}
theorem refl (base : Nat) (t : TypeId) (w : World) : KeepT base t w w := ⟨rfl, rfl, rfl, Nat.le_refl _, fun _ _ _ => rfl⟩
theorem trans (h : KeepT base t w w') (k : KeepT base t w' w'') : KeepT base t w w'' :=
  ⟨k.os.trans h.os, k.tape.trans h.tape, k.output.trans h.output, Nat.le_trans h.size k.size, fun i hi hc => by
    have e := h.block i hi hc
    refine (k.block i (by have := h.size; omega) ?_).trans e
    rcases hc with hc | hc
    · exact .inl hc
    · exact .inr fun cur => by rw [e]; exact hc cur⟩
theorem of_below (h : Below w.heap.size w w') : KeepT base t w w' := ⟨h.os, h.tape, h.output, h.size, fun k hk _ => h.block k hk⟩
theorem of_grown {size n : Nat} {v : Value} {xs : List Value} (ho : w.ownsRow base t size v n xs) (h : w.grownBy w' v.ownBlock) : KeepT base t w w' :=
  ⟨h.os, h.tape, h.output, h.size, fun k hk hc => by
    refine h.block k hk fun e => ?_
    obtain ⟨-, ⟨rfl, -⟩ | ⟨g, cap, cur, rfl, hg, hh, -⟩⟩ := ho
    · cases e
    · simp only [Value.ownBlock, Option.some.injEq] at e
      subst e
      rcases hc with hc | hc
      · omega
      · exact hc _ hh⟩
theorem alloc (h : KeepT base t w w') (o : Obj) : KeepT base t w (w'.alloc o) := h.trans (of_below ((Below.refl _ _).alloc (Nat.le_refl _) _))
theorem below (h : KeepT base t w w') (hb : base ≤ w.heap.size) : Below base w w' := ⟨h.os, h.tape, h.output, h.size, fun k hk => h.block k (by omega) (.inl hk)⟩
end KeepT
/-- A list of ints in a block of its own. -/
def IntRow (w : World) (v : Value) (l : List Int) : Prop :=
  ∃ a c, v = .slice a l.length c ∧ (l = [] ∨ ∃ g cur, a = some ⟨g, 0, none⟩ ∧ w.heap[g]? = some (.cells cur 3 (0, 0)) ∧ ∀ i, (h : i < l.length) → cur[i]? = some (.int .i64 l[i]))
theorem IntRow.keep {w w' : World} {base t : Nat} {v : Value} {l : List Int} (h : IntRow w v l) (hk : KeepT base t w w') (ht : 3 ≠ t) : IntRow w' v l := by
  obtain ⟨a, c, rfl, h1 | ⟨g, cur, rfl, hg, hc⟩⟩ := h
  · exact ⟨a, c, rfl, .inl h1⟩
  · refine ⟨_, c, rfl, .inr ⟨g, cur, rfl, ?_, hc⟩⟩
    refine (hk.block g (Array.getElem?_eq_some_iff.1 hg).1 (.inr fun cur' e => ?_)).trans hg
    rw [hg] at e
    simp only [Option.some.injEq, Obj.cells.injEq] at e
    exact ht e.2.1
theorem IntRow.ints {w : World} {v : Value} {l : List Int} (h : IntRow w v l) : ∃ a c, v = .slice a l.length c ∧ IntsM w a l := by
  obtain ⟨a, c, rfl, h1 | ⟨g, cur, rfl, hg, hc⟩⟩ := h
  · exact ⟨a, c, rfl, fun i hi => by subst h1; exact absurd hi (by simp)⟩
  · refine ⟨_, c, rfl, fun i hi => ⟨g, 0, rfl, fun j u hj => ?_⟩⟩
    have hj0 : j = 0 := by
      have := (List.getElem?_eq_some_iff.1 hj).1
      simp [itc] at this; omega
    subst hj0
    simp only [itc, List.getElem?_cons_zero, Option.some.injEq] at hj
    subst hj
    rw [cell_of_row w g _ cur 3 (0, 0) hg]
    simpa using hc i hi
def icell (x : Int) : Value := .int .i64 x
theorem IntRow.src {w : World} {v : Value} {l : List Int} (h : IntRow w v l) : SrcAt w v l.length 1 (l.map icell) := by
  obtain ⟨a, c, rfl, h1 | ⟨g, cur, rfl, hg, hc⟩⟩ := h
  · subst h1
    refine ⟨rfl, ?_⟩
    cases a with
    | none => exact .inl ⟨c, rfl, rfl⟩
    | some ad => exact .inr ⟨ad, c, rfl, fun j u hj => by cases hj⟩
  · refine ⟨by simp, .inr ⟨_, c, rfl, fun j u hj => ?_⟩⟩
    rw [Addr.add_lit, cell_of_row w g _ cur 3 (0, 0) hg]
    rw [List.getElem?_map] at hj
    have hjl : j < l.length := by
      rcases Nat.lt_or_ge j l.length with h | h
      · exact h
      · rw [List.getElem?_eq_none h] at hj; cases hj
    rw [List.getElem?_eq_getElem hjl] at hj
    simp only [Option.map_some, Option.some.injEq, icell] at hj
    subst hj
    simpa using hc j hjl
theorem IntRow.of_own {w : World} {base : Nat} {v : Value} {l : List Int} (h : w.ownsRow base 3 1 v l.length (l.map icell)) : IntRow w v l := by
  obtain ⟨hl, ⟨rfl, h0⟩ | ⟨g, cap, cur, rfl, hg, hh, hn, hc, hs, ht⟩⟩ := h
  · have : l = [] := List.eq_nil_of_length_eq_zero h0
    subst this
    exact ⟨none, 0, rfl, .inl rfl⟩
  · refine ⟨_, cap, rfl, .inr ⟨g, cur, rfl, hh, fun i hi => ?_⟩⟩
    have h2 : (cur.toList.take (l.length * 1))[i]? = (l.map icell)[i]? := by rw [ht]
    rw [List.getElem?_take, if_pos (by omega), List.getElem?_map, List.getElem?_eq_getElem hi] at h2
    simpa [icell] using h2
/-- Lists in a row. -/
def SlicesAt (w : World) (ys : List Value) (ll : List (List Int)) : Prop := ys.length = ll.length ∧ ∀ i, (h : i < ll.length) → ∃ y, ys[i]? = some y ∧ IntRow w y ll[i]
theorem SlicesAt.keep {w w' : World} {base t : Nat} {ys : List Value} {ll : List (List Int)} (h : SlicesAt w ys ll) (hk : KeepT base t w w') (ht : 3 ≠ t) : SlicesAt w' ys ll :=
  ⟨h.1, fun i hi => by obtain ⟨y, h1, h2⟩ := h.2 i hi; exact ⟨y, h1, h2.keep hk ht⟩⟩
theorem SlicesAt.append {w : World} {ys zs : List Value} {l1 l2 : List (List Int)} (h : SlicesAt w ys l1) (k : SlicesAt w zs l2) : SlicesAt w (ys ++ zs) (l1 ++ l2) := by
  refine ⟨by rw [List.length_append, List.length_append, h.1, k.1], fun i hi => ?_⟩
  rcases Nat.lt_or_ge i l1.length with hlt | hge
  · obtain ⟨y, h1, h2⟩ := h.2 i hlt
    refine ⟨y, ?_, ?_⟩
    · rw [List.getElem?_append_left (by rw [h.1]; exact hlt)]; exact h1
    · rw [List.getElem_append_left hlt]; exact h2
  · have hi2 : i - l1.length < l2.length := by rw [List.length_append] at hi; omega
    obtain ⟨y, h1, h2⟩ := k.2 (i - l1.length) hi2
    refine ⟨y, ?_, ?_⟩
    · rw [List.getElem?_append_right (by rw [h.1]; exact hge), h.1]; exact h1
    · rw [List.getElem_append_right hge]; exact h2
def rangeI (lo hi : Int) : List Int := (List.range (hi - lo + 1).toNat).map fun k : Nat => lo + (k : Int)
def prodL : List (Int × Int) → List (List Int)
  | [] => [[]]
  | p :: r => (rangeI p.1 p.2).flatMap fun k => (prodL r).map (k :: ·)
/-- What lists adds. -/
def extL (l : List (Int × Int)) (b : List Int) : List (List Int) := (prodL (l.drop b.length)).map (b ++ ·)
theorem extL_done {l : List (Int × Int)} {b : List Int} (h : b.length = l.length) : extL l b = [b] := by
  unfold extL; rw [h, List.drop_length]; simp [prodL]
def accL (l : List (Int × Int)) (b : List Int) (lo : Int) (j : Nat) : List (List Int) := (List.range j).flatMap fun k : Nat => extL l (b ++ [lo + (k : Int)])
theorem accL_succ (l : List (Int × Int)) (b : List Int) (lo : Int) (j : Nat) : accL l b lo (j + 1) = accL l b lo j ++ extL l (b ++ [lo + (j : Int)]) := by
  unfold accL; rw [List.range_succ, List.flatMap_append]; simp
theorem extL_more {l : List (Int × Int)} {b : List Int} (h : b.length < l.length) : extL l b = accL l b (l[b.length]).1 ((l[b.length]).2 - (l[b.length]).1 + 1).toNat := by
  unfold extL accL
  rw [List.drop_eq_getElem_cons h, prodL, List.map_flatMap]
  unfold rangeI
  rw [List.flatMap_map]
  congr 1
  funext k
  unfold extL
  rw [List.map_map, List.length_append]
  simp [Function.comp_def]
def ListsPost (base : Nat) (v : Value) (xs : List Value) (ll : List (List Int)) (w : World) (e : Ending) (w' : World) : Prop :=
  ∃ v' ys, e = .returned v' ∧ w'.ownsRow base 50 1 v' (xs.length + ll.length) (xs ++ ys) ∧ SlicesAt w' ys ll ∧ KeepT base 50 w w'
end Go.Proofs.Yteeinehpneppnaa
/- shearworksref01: lists walked. -/
set_option linter.unusedVariables false
set_option linter.unusedSimpArgs false
namespace Go.Proofs.Yteeinehpneppnaa
open Go.RowKit Go.Proofs
attribute [local irreducible] Ord.walk
theorem Try.info3 : (Try.prog.info? 3).map (fun i => (i.zero, i.size, i.bytes)) = some (some (.int .i64 0), 1, 8) := by kernel_rfl
theorem Try.info50 : (Try.prog.info? 50).map (fun i => (i.zero, i.size, i.bytes)) = some (some (.slice none 0 0), 1, 24) := by kernel_rfl
theorem info_of {P : Program} {t : TypeId} {z : Value} {s b : Nat} (h : (P.info? t).map (fun i => (i.zero, i.size, i.bytes)) = some (some z, s, b)) : ∃ i, P.info? t = some i ∧ i.zero = some z ∧ i.size = s ∧ i.bytes = b := by
  cases hi : P.info? t with
  | none => rw [hi] at h; cases h
  | some i =>
    rw [hi] at h
    simp only [Option.map_some, Option.some.injEq, Prod.mk.injEq] at h
    exact ⟨i, rfl, h.1, h.2.1, h.2.2⟩
theorem accL_mono (l : List (Int × Int)) (b : List Int) (lo : Int) {i j : Nat} (h : i ≤ j) : (accL l b lo i).length ≤ (accL l b lo j).length := by
  induction j with
  | zero => obtain rfl : i = 0 := by omega
            exact Nat.le_refl _
  | succ j ih =>
    rcases Nat.lt_or_ge i (j + 1) with h1 | h1
    · have := ih (by omega)
      rw [accL_succ, List.length_append]; omega
    · obtain rfl : i = j + 1 := by omega
      exact Nat.le_refl _
theorem icell_one (l : List Int) : ∀ u ∈ l.map icell, u.oneCell' = true := by
  intro u hu
  obtain ⟨x, _, rfl⟩ := List.mem_map.1 hu
  rfl
set_option maxHeartbeats 40000000 in
set_option maxRecDepth 100000 in
theorem r_lists (l : List (Int × Int)) (la : Option Addr) (lc : Nat) (base : Nat) (w0 : World) (h0 : base ≤ w0.heap.size) (HLs : ∀ W, Below base w0 W → RowsAt W la 2 spc l) (hll : l.length ≤ 100) (hlv : ∀ p ∈ l, -1000 ≤ p.1 ∧ p.1 ≤ 1000 ∧ -1000 ≤ p.2 ∧ p.2 ≤ 1000) :
    ∀ (f : Nat) (b : List Int), b.length + f = l.length → ∀ (w : World) (bv v : Value) (xs : List Value), Below base w0 w → IntRow w bv b → w.ownsRow base 50 1 v xs.length xs → xs.length + (extL l b).length ≤ 100000 →
      Calls Try.prog 101 #[.slice la l.length lc, bv, v] w (ListsPost base v xs (extL l b) w) := by
  obtain ⟨i0, hi0, hz0, hz1, hz2⟩ := info_of Try.info3
  obtain ⟨j0, hj0, kz0, kz1, kz2⟩ := info_of Try.info50
  intro f
  induction f with
  | zero =>
    intro b hb w bv v xs hw hbv hown hn
    have hsw := hw.size
    rw [extL_done (by omega)] at hn ⊢
    have hbl : b.length = l.length := by omega
    obtain ⟨a, c, rfl, hbc⟩ := hbv
    have hbr : IntRow w (.slice a b.length c) b := ⟨a, c, rfl, hbc⟩
    have hli : (l.length : Int) ≤ 100 := by omega
    rw [hbl] at *
    clear hbc HLs
    go_enter Try.func101, Try.ntmps101
    go_wp2_with (first
      | (at_builtin; refine at_stop ?_))
    unfold Stop
    simp only [List.length_singleton] at hn ⊢
    refine wpList_append_own _ rfl (.tmp 15) (.tmp 17) 149 rfl base 50 j0 (.slice none 0 0) 1 24 Try.underlying149 hj0 kz0 kz1 kz2 rfl (by decide) v xs.length xs rfl (World.ownsRow.alloc hown _) ⟨w.heap.size, 0, none⟩ 1 1 [.slice a l.length c] rfl rfl (news_blk (A := #[.slice a l.length c]) (Blk.new _ _ _)) (by simp [Value.oneCell']) (by unfold maxLen; omega) (by omega) (by simp; omega) ?_
    intro v6 w6 hown6 hgrow6 _
    have hk6 : KeepT base 50 w w6 := ((KeepT.refl _ _ _).alloc _).trans (KeepT.of_grown (World.ownsRow.alloc hown _) hgrow6)
    go_wp2_with fail
    go_ret
    exact ⟨v6, [.slice a l.length c], rfl, hown6, ⟨rfl, fun i hi => by
      have hi0 : i = 0 := by simp at hi; omega
      subst hi0
      exact ⟨_, rfl, hbr.keep hk6 (by decide)⟩⟩, hk6⟩
  | succ f ih =>
    intro b hb w bv v xs hw hbv hown hn
    have hbl : b.length < l.length := by omega
    have hli : (l.length : Int) ≤ 100 := by omega
    have hbi : (b.length : Int) < (l.length : Int) := by omega
    have hE := extL_more hbl
    have hp := hlv _ (List.getElem_mem hbl)
    have hbne : ((b.length : Int) == (l.length : Int)) = false := by simp; omega
    rw [hE] at hn ⊢
    obtain ⟨lo, hlo⟩ : ∃ lo, (l[b.length]).1 = lo := ⟨_, rfl⟩
    obtain ⟨hi, hhi⟩ : ∃ hi, (l[b.length]).2 = hi := ⟨_, rfl⟩
    rw [hlo, hhi] at hn hp ⊢
    obtain ⟨cnt, hcnt⟩ : ∃ cnt, (hi - lo + 1).toNat = cnt := ⟨_, rfl⟩
    rw [hcnt] at hn ⊢
    have hcells : Hid (∀ W, Below base w0 W → ∃ gb go, la = some ⟨gb, go, none⟩ ∧ W.cell? ⟨gb, go + b.length * 2, none⟩ = some (.int .i64 lo) ∧ W.cell? ⟨gb, go + b.length * 2 + 1, none⟩ = some (.int .i64 hi)) := fun W hW => by
      obtain ⟨gb, go, e0, e1, e2⟩ := (HLs W hW).get2 hbl
      rw [hlo] at e1
      rw [hhi] at e2
      exact ⟨gb, go, e0, e1, e2⟩
    obtain ⟨gb, go, rfl, c1, c2⟩ := hcells.out w hw
    have hsw := hw.size
    obtain ⟨a, c, hbe, hbc⟩ := hbv
    subst hbe
    have hbr : IntRow w (.slice a b.length c) b := ⟨a, c, rfl, hbc⟩
    have IH := Lib.hid ih
    clear hE hlo hhi hbc ih HLs hlv
    go_enter Try.func101, Try.ntmps101
    go_wp2_with fail
    clear c1 c2
    go_loopw [2, 8] (fun x i wr => ∃ (j : Nat) (v' : Value) (ys : List Value), j ≤ cnt ∧ i = .int .i64 (lo + (j : Int)) ∧ x = v' ∧ wr.ownsRow base 50 1 v' (xs.length + ys.length) (xs ++ ys) ∧ SlicesAt wr ys (accL l b lo j) ∧ KeepT base 50 w wr) (fun _ i _ => (hi + 1 - intOf i).toNat)
    case atStart => exact ⟨0, v, [], by omega, by simp, rfl, by simpa using hown, ⟨rfl, fun i hi => by simp [accL] at hi⟩, KeepT.refl _ _ _⟩
    case round =>
      obtain ⟨j, v', ys, hj, rfl, rfl, hownr, hsl, hkp⟩ := hrel
      have hBr := hkp.below (by omega)
      obtain ⟨gb', go', e0, c1, c2⟩ := hcells.out wr (hw.trans hBr)
      simp only [Option.some.injEq, Addr.mk.injEq] at e0
      obtain ⟨rfl, rfl, -⟩ := e0
      have hsr := hkp.size
      have hyl := hsl.1
      by_cases hlt : j < cnt
      · have hlti : lo + (j : Int) ≤ hi := by omega
        have hmono := accL_mono l b lo (show j + 1 ≤ cnt by omega)
        have hsu := accL_succ l b lo j
        rw [hsu, List.length_append] at hmono
        have hkint : -1000 ≤ lo + (j : Int) ∧ lo + (j : Int) ≤ 1000 := by omega
        have HSU := Lib.hid hsu
        clear hsu
        generalize hkk : lo + (j : Int) = k at *
        go_wp2_with (first
          | (at_builtin; refine at_stop ?_))
        unfold Stop
        have hr := hbr.keep hkp (by decide)
        have hown0 : (wr.alloc (.cells #[] 3)).ownsRow wr.heap.size 3 1 (.slice (some ⟨wr.heap.size, 0, none⟩) 0 0) 0 [] := World.ownsRow_made wr #[] 0 (Nat.le_refl _) (by decide) rfl
        have hra : IntRow (wr.alloc (.cells #[] 3)) (.slice a b.length c) b := hr.keep ((KeepT.refl base 50 wr).alloc _) (by decide)
        refine wpList_append_src rfl (.tmp 34) (.tmp 35) 50 rfl wr.heap.size 3 i0 (.int .i64 0) 1 8 Try.underlying50 hi0 hz0 hz1 hz2 rfl (by decide) (.slice (some ⟨wr.heap.size, 0, none⟩) 0 0) 0 [] rfl hown0 (.slice a b.length c) b.length (b.map icell) rfl hra.src (icell_one _) (by unfold maxLen; omega) (by omega) (by simp) ?_
        intro v1 w1 hown1 hgrow1
        simp only [Nat.zero_add, List.nil_append] at hown1
        have hB1 : Below wr.heap.size wr w1 := ((Below.refl _ _).alloc (Nat.le_refl _) _).grown hgrow1 (by simp) (fun g e => by simp only [Value.ownBlock, Option.some.injEq] at e; omega)
        have hs1 := hB1.size
        clear hgrow1 hown0 hra
        go_wp2_with (first
          | (at_builtin; refine at_stop ?_))
        unfold Stop
        refine wpList_append_own _ rfl (.tmp 36) (.tmp 38) 50 rfl wr.heap.size 3 i0 (.int .i64 0) 1 8 Try.underlying50 hi0 hz0 hz1 hz2 rfl (by decide) v1 b.length (b.map icell) rfl (World.ownsRow.alloc hown1 _) ⟨w1.heap.size, 0, none⟩ 1 1 [icell k] rfl rfl (news_blk (A := #[.int .i64 k]) (Blk.new _ _ _)) (by simp [icell, Value.oneCell']) (by unfold maxLen; omega) (by omega) (by simp; omega) ?_
        intro v2 w2 hown2 hgrow2 _
        have hB2 : Below wr.heap.size wr w2 := (hB1.alloc (by omega) _).grown hgrow2 (by simp; omega) (fun g e => (hown1.lt g e).1)
        have hrow2 : IntRow w2 v2 (b ++ [k]) := IntRow.of_own (by simpa using hown2)
        have hown' := ownsRow_below hownr hB2
        have hIH := IH.out (b ++ [k]) (by simp; omega) w2 v2 u2 (xs ++ ys) ((hw.trans hBr).trans (hB2.mono (by omega))) hrow2 (by simpa using hown') (by rw [List.length_append]; omega)
        clear hgrow2 hown1 hown2 IH hown' hrow2
        go_wp2_with (first
          | (go_at_call 101; refine hIH.mono ?_; rintro e w3 ⟨v3, zs, rfl, hown3, hs3, hk3⟩))
        refine ⟨⟨j + 1, v3, ys ++ zs, by omega, ?_, rfl, ?_, ?_, (hkp.trans (KeepT.of_below hB2)).trans hk3⟩, by simp [intOf]; omega⟩
        · congr 1; omega
        · have hz := hs3.1
          have e : (xs ++ ys).length + (extL l (b ++ [k])).length = xs.length + (ys ++ zs).length := by simp [hz]; omega
          rw [e] at hown3
          simpa [List.append_assoc] using hown3
        · rw [HSU.out]
          exact ((hsl.keep (KeepT.of_below hB2 : KeepT base 50 wr w2) (by decide)).keep hk3 (by decide)).append hs3
      · have hlti : ¬ lo + (j : Int) ≤ hi := by omega
        have e : j = cnt := by omega
        subst e
        clear hcnt
        go_wp2_with fail
        go_ret
        refine ⟨_, ys, rfl, ?_, hsl, hkp⟩
        rw [← hyl]; exact hownr
end Go.Proofs.Yteeinehpneppnaa
/- Plain laws: all lists with an integer of each span; all truths. -/
set_option linter.unusedVariables false
set_option linter.unusedSimpArgs false
namespace Go.Proofs.Yteeinehpneppnaa
open Go.RowKit Go.Proofs
attribute [local irreducible] Ord.walk
theorem mem_rangeI {lo hi x : Int} : x ∈ rangeI lo hi ↔ lo ≤ x ∧ x ≤ hi := by
  unfold rangeI
  rw [List.mem_map]
  constructor
  · rintro ⟨k, hk, rfl⟩
    have := List.mem_range.1 hk
    omega
  · rintro ⟨h1, h2⟩
    exact ⟨(x - lo).toNat, List.mem_range.2 (by omega), by omega⟩
theorem rangeI_len (lo hi : Int) : (rangeI lo hi).length = (hi - lo + 1).toNat := by unfold rangeI; simp
theorem mem_prodL : ∀ (l : List (Int × Int)) (x : List Int), x ∈ prodL l ↔ x.length = l.length ∧ ∀ i, (h : i < l.length) → ∃ y, x[i]? = some y ∧ (l[i]).1 ≤ y ∧ y ≤ (l[i]).2
  | [], x => by
    simp only [prodL, List.mem_singleton, List.length_nil]
    constructor
    · rintro rfl; exact ⟨rfl, fun i h => absurd h (by simp)⟩
    · rintro ⟨h, _⟩; exact List.eq_nil_of_length_eq_zero h
  | p :: r, x => by
    simp only [prodL, List.mem_flatMap, List.mem_map]
    constructor
    · rintro ⟨k, hk, z, hz, rfl⟩
      obtain ⟨h1, h2⟩ := (mem_prodL r z).1 hz
      refine ⟨by simp [h1], fun i hi => ?_⟩
      cases i with
      | zero => exact ⟨k, rfl, mem_rangeI.1 hk⟩
      | succ i =>
        have hi' : i < r.length := by simpa using hi
        obtain ⟨y, e, hy⟩ := h2 i hi'
        exact ⟨y, by simpa using e, by simpa using hy⟩
    · rintro ⟨h1, h2⟩
      cases x with
      | nil => simp at h1
      | cons k z =>
        obtain ⟨y, e, hy⟩ := h2 0 (by simp)
        simp only [List.getElem?_cons_zero, Option.some.injEq] at e
        subst e
        refine ⟨k, mem_rangeI.2 hy, z, (mem_prodL r z).2 ⟨by simpa using h1, fun i hi => ?_⟩, rfl⟩
        obtain ⟨y, e, hy⟩ := h2 (i + 1) (by simpa using hi)
        exact ⟨y, by simpa using e, by simpa using hy⟩
theorem prodL_len (W : Nat) : ∀ (l : List (Int × Int)), (∀ p ∈ l, (p.2 - p.1 + 1).toNat ≤ W) → (prodL l).length ≤ W ^ l.length
  | [], _ => by simp [prodL]
  | p :: r, h => by
    have ih := prodL_len W r (fun q hq => h q (by simp [hq]))
    have h1 := h p (by simp)
    rw [← rangeI_len] at h1
    rw [prodL, List.length_cons, Nat.pow_succ, Nat.mul_comm]
    have : ∀ (ks : List Int), (ks.flatMap fun k => (prodL r).map (k :: ·)).length = ks.length * (prodL r).length := fun ks => by
      induction ks with
      | nil => simp
      | cons k ks ihk => rw [List.flatMap_cons, List.length_append, ihk, List.length_map, List.length_cons, Nat.succ_mul]; omega
    rw [this]
    exact Nat.mul_le_mul h1 ih
/-- When mobs can leave. -/
def leavesL (m : Mb) : List (Int × Int) := m.herds.map fun h => (h.2.1, h.2.2.1)
/-- All truths, by what of a set was seen. -/
def truthsM (m : Mb) (set : Nat) : List (List Int × List Int) := (prodL m.legs).flatMap fun L => ((prodL (leavesL m)).filter fun D => rightM m L D set).map fun D => (L, D)
theorem trOk_of {m : Mb} {L D : List Int} (h1 : L ∈ prodL m.legs) (h2 : D ∈ prodL (leavesL m)) : TrOk m L D := by
  obtain ⟨a1, a2⟩ := (mem_prodL _ _).1 h1
  obtain ⟨b1, b2⟩ := (mem_prodL _ _).1 h2
  have hl : (leavesL m).length = m.herds.length := by unfold leavesL; simp
  refine ⟨a1, by rw [b1, hl], fun i hi => ?_, fun i hi => ?_⟩
  · obtain ⟨y, e, hy⟩ := a2 i (by rw [← a1]; exact hi)
    rw [List.getElem?_eq_getElem hi, Option.some.injEq] at e
    subst e
    rw [List.getD_eq_getElem?_getD, List.getElem?_eq_getElem (by rw [← a1]; exact hi)]
    exact hy
  · obtain ⟨y, e, hy⟩ := b2 i (by rw [← b1]; exact hi)
    rw [List.getElem?_eq_getElem hi, Option.some.injEq] at e
    subst e
    have hi2 : i < m.herds.length := by rw [← hl, ← b1]; exact hi
    rw [List.getD_eq_getElem?_getD, List.getElem?_eq_getElem hi2]
    simpa [leavesL] using hy
theorem legs_len {m : Mb} (hv : validM m = true) : (prodL m.legs).length ≤ 243 := by
  have hl := validM_len hv
  refine Nat.le_trans (prodL_len 3 m.legs fun p hp => ?_) ?_
  · obtain ⟨i, hi, rfl⟩ := List.mem_iff_getElem.1 hp
    have := validM_leg hv hi
    rw [List.getD_eq_getElem?_getD, List.getElem?_eq_getElem hi] at this
    simp only [Option.getD_some] at this
    omega
  · exact Nat.le_trans (Nat.pow_le_pow_right (by omega) (show m.legs.length ≤ 5 by omega)) (by decide)
theorem leaves_len {m : Mb} (hv : validM m = true) : (prodL (leavesL m)).length ≤ 256 := by
  have hl := validM_len hv
  refine Nat.le_trans (prodL_len 4 (leavesL m) fun p hp => ?_) ?_
  · unfold leavesL at hp
    obtain ⟨q, hq, rfl⟩ := List.mem_map.1 hp
    obtain ⟨i, hi, rfl⟩ := List.mem_iff_getElem.1 hq
    have := validM_herd hv hi
    rw [List.getD_eq_getElem?_getD, List.getElem?_eq_getElem hi] at this
    simp only [Option.getD_some] at this
    omega
  · have h4 : (leavesL m).length ≤ 4 := by unfold leavesL; rw [List.length_map]; omega
    exact Nat.le_trans (Nat.pow_le_pow_right (by omega) h4) (by decide)
/-- Truths in a row: a list of legs, and one of days, each. -/
def TruthsAt (w : World) (v : Value) (T : List (List Int × List Int)) : Prop :=
  ∃ a c, v = .slice a T.length c ∧ ∀ i, (h : i < T.length) → ∃ g o y z, a = some ⟨g, o, none⟩ ∧ w.cell? ⟨g, o + i * 2, none⟩ = some y ∧ w.cell? ⟨g, o + i * 2 + 1, none⟩ = some z ∧ IntRow w y (T[i]).1 ∧ IntRow w z (T[i]).2
end Go.Proofs.Yteeinehpneppnaa
/- shearworksref01: truths walked. -/
set_option linter.unusedVariables false
set_option linter.unusedSimpArgs false
namespace Go.Proofs.Yteeinehpneppnaa
open Go.RowKit Go.Proofs
attribute [local irreducible] Ord.walk
theorem Try.info39 : (Try.prog.info? 39).map (fun i => (i.zero, i.size, i.bytes)) = some (some (.agg #[.int .i64 0, .int .i64 0]), 2, 16) := by kernel_rfl
theorem Try.info98 : (Try.prog.info? 98).map (fun i => (i.zero, i.size, i.bytes)) = some (some (.agg #[.slice none 0 0, .slice none 0 0]), 2, 48) := by kernel_rfl
theorem spc_len (l : List (Int × Int)) : (l.flatMap spc).length = l.length * 2 := by
  induction l with
  | nil => rfl
  | cons a l ih => rw [List.flatMap_cons, List.length_append, ih, List.length_cons]; simp [spc]; omega
theorem spc_get : ∀ (l : List (Int × Int)) (i : Nat) (h : i < l.length) (j : Nat), j < 2 → (l.flatMap spc)[i * 2 + j]? = (spc l[i])[j]?
  | [], i, h, j, hj => absurd h (by simp)
  | a :: l, 0, h, j, hj => by
    rw [List.flatMap_cons, List.getElem?_append_left (by simp [spc]; omega)]; simp
  | a :: l, i + 1, h, j, hj => by
    rw [List.flatMap_cons, List.getElem?_append_right (by simp [spc]; omega)]
    have : (i + 1) * 2 + j - (spc a).length = i * 2 + j := by simp [spc]; omega
    rw [this, spc_get l i (by simpa using h) j hj]
    simp
/-- An owned row of spans is a list that is read. -/
theorem own_spans {w : World} {base : Nat} {v : Value} {l : List (Int × Int)} (h : w.ownsRow base 39 2 v l.length (l.flatMap spc)) : ∃ a c, v = .slice a l.length c ∧ RowsAt w a 2 spc l ∧ (∀ gb go, a = some ⟨gb, go, none⟩ → base ≤ gb ∧ gb < w.heap.size) := by
  have h0 := h
  obtain ⟨hl, ⟨rfl, h1⟩ | ⟨g, cap, cur, rfl, hg, hh, hn, hc, hs, ht⟩⟩ := h
  · exact ⟨none, 0, by rw [h1], fun i hi => by omega, fun gb go e => by cases e⟩
  · refine ⟨_, cap, rfl, fun i hi => ⟨g, 0, rfl, fun j u hj => ?_⟩, fun gb go e => ?_⟩
    · have hj2 : j < 2 := by have := (List.getElem?_eq_some_iff.1 hj).1; simpa [spc] using this
      rw [Nat.zero_add, cell_of_row w g _ cur _ (0, 0) hh]
      have h2 := spc_get l i hi j hj2
      rw [hj, ← ht, List.getElem?_take, if_pos (by omega)] at h2
      simpa using h2
    · simp only [Option.some.injEq, Addr.mk.injEq] at e
      obtain ⟨rfl, -, -⟩ := e
      exact ⟨hg, (Array.getElem?_eq_some_iff.1 hh).1⟩
theorem agg_truth : AggTy Try.prog 98 2 := ⟨_, Try.underlying98, rfl, by kernel_rfl⟩
theorem row_get {w : World} {base : Nat} {v : Value} {ys : List Value} {ll : List (List Int)} (hown : w.ownsRow base 50 1 v ll.length ys) (hs : SlicesAt w ys ll) {i : Nat} (hi : i < ll.length) :
    ∃ g c y, v = .slice (some ⟨g, 0, none⟩) ll.length c ∧ g < w.heap.size ∧ w.cell? ⟨g, i, none⟩ = some y ∧ IntRow w y ll[i] := by
  obtain ⟨y, h1, h2⟩ := hs.2 i hi
  obtain ⟨g, c, rfl⟩ := own_slice hown (by omega)
  have hc := hown.cells (g := g) rfl i y h1
  rw [Addr.add_lit, Nat.zero_add] at hc
  exact ⟨g, c, y, rfl, World.block_lt_of_cell? w _ hc, hc, h2⟩
theorem own_any {w : World} {base n : Nat} {e : TypeId} {v : Value} {xs : List Value} {s : Nat} (h : w.ownsRow base e s v n xs) : ∃ a c, v = .slice a n c := by
  obtain ⟨hl, ⟨rfl, h0⟩ | ⟨g, cap, cur, rfl, hg, hh, hn, hc, hs, ht⟩⟩ := h
  · exact ⟨none, 0, by rw [h0]⟩
  · exact ⟨_, _, rfl⟩
/-- The cells of truths in a row. -/
def TRow (w : World) (cs : List Value) (T : List (List Int × List Int)) : Prop :=
  cs.length = T.length * 2 ∧ ∀ i, (h : i < T.length) → ∃ y z, cs[i * 2]? = some y ∧ cs[i * 2 + 1]? = some z ∧ IntRow w y (T[i]).1 ∧ IntRow w z (T[i]).2
theorem TRow.keep {w w' : World} {cs : List Value} {T : List (List Int × List Int)} {base t : Nat} (h : TRow w cs T) (hk : KeepT base t w w') (ht : 3 ≠ t) : TRow w' cs T :=
  ⟨h.1, fun i hi => by obtain ⟨y, z, e1, e2, h1, h2⟩ := h.2 i hi; exact ⟨y, z, e1, e2, h1.keep hk ht, h2.keep hk ht⟩⟩
theorem TRow.snoc {w : World} {cs : List Value} {T : List (List Int × List Int)} (h : TRow w cs T) {y z : Value} {L D : List Int} (h1 : IntRow w y L) (h2 : IntRow w z D) : TRow w (cs ++ [y, z]) (T ++ [(L, D)]) := by
  refine ⟨by simp [h.1]; omega, fun i hi => ?_⟩
  rcases Nat.lt_or_ge i T.length with hlt | hge
  · obtain ⟨u, v, e1, e2, k1, k2⟩ := h.2 i hlt
    refine ⟨u, v, ?_, ?_, ?_, ?_⟩
    · rw [List.getElem?_append_left (by rw [h.1]; omega)]; exact e1
    · rw [List.getElem?_append_left (by rw [h.1]; omega)]; exact e2
    · rw [List.getElem_append_left hlt]; exact k1
    · rw [List.getElem_append_left hlt]; exact k2
  · have e : i = T.length := by simp at hi; omega
    subst e
    refine ⟨y, z, ?_, ?_, ?_, ?_⟩
    · rw [List.getElem?_append_right (by rw [h.1]; omega), h.1]; simp
    · rw [List.getElem?_append_right (by rw [h.1]; omega), h.1]; simp
    · simpa using h1
    · simpa using h2
theorem TRow.at {w : World} {base : Nat} {v : Value} {cs : List Value} {T : List (List Int × List Int)} (h : TRow w cs T) (ho : w.ownsRow base 98 2 v T.length cs) : TruthsAt w v T := by
  obtain ⟨a, c, rfl⟩ := own_any ho
  refine ⟨a, c, rfl, fun i hi => ?_⟩
  obtain ⟨g, c', e⟩ := own_slice ho (by omega)
  simp only [Value.slice.injEq] at e
  obtain ⟨rfl, -, rfl⟩ := e
  obtain ⟨y, z, e1, e2, h1, h2⟩ := h.2 i hi
  have c1 := ho.cells (g := g) rfl _ _ e1
  have c2 := ho.cells (g := g) rfl _ _ e2
  rw [Addr.add_lit] at c1 c2
  exact ⟨g, 0, y, z, rfl, c1, c2, h1, h2⟩
/-- All truths with the first k lists of legs; those with one list of legs, and the first k lists of days. -/
def tI (r : List Int → List Int → Bool) (L : List Int) (PD : List (List Int)) (k : Nat) : List (List Int × List Int) := ((PD.take k).filter (r L)).map fun D => (L, D)
def tO (r : List Int → List Int → Bool) (PL PD : List (List Int)) (k : Nat) : List (List Int × List Int) := (PL.take k).flatMap fun L => (PD.filter (r L)).map fun D => (L, D)
theorem tO_succ (r : List Int → List Int → Bool) (PL PD : List (List Int)) {k : Nat} (h : k < PL.length) : tO r PL PD (k + 1) = tO r PL PD k ++ tI r PL[k] PD PD.length := by
  unfold tO tI; rw [List.take_succ_eq_append_getElem h, List.flatMap_append, List.take_length]; simp
theorem tO_all (r : List Int → List Int → Bool) (PL PD : List (List Int)) : tO r PL PD PL.length = PL.flatMap fun L => (PD.filter (r L)).map fun D => (L, D) := by
  unfold tO; rw [List.take_length]
theorem tI_succ (r : List Int → List Int → Bool) (L : List Int) (PD : List (List Int)) {k : Nat} (h : k < PD.length) : tI r L PD (k + 1) = tI r L PD k ++ if r L PD[k] then [(L, PD[k])] else [] := by
  unfold tI; rw [List.take_succ_eq_append_getElem h, List.filter_append, List.map_append]
  congr 1
  cases hr : r L PD[k] <;> simp [hr]
theorem tI_len (r : List Int → List Int → Bool) (L : List Int) (PD : List (List Int)) (k : Nat) : (tI r L PD k).length ≤ PD.length := by
  unfold tI; rw [List.length_map]
  refine Nat.le_trans (List.length_filter_le _ _) ?_
  rw [List.length_take]; omega
theorem tO_len (r : List Int → List Int → Bool) (PL PD : List (List Int)) (k : Nat) : (tO r PL PD k).length ≤ PL.length * PD.length := by
  unfold tO
  have : ∀ l : List (List Int), (l.flatMap fun L => (PD.filter (r L)).map fun D => (L, D)).length ≤ l.length * PD.length := fun l => by
    induction l with
    | nil => simp
    | cons a l ih =>
      rw [List.flatMap_cons, List.length_append, List.length_map, List.length_cons, Nat.succ_mul]
      have := List.length_filter_le (r a) PD
      omega
  refine Nat.le_trans (this _) (Nat.mul_le_mul_right _ ?_)
  rw [List.length_take]; omega
set_option maxHeartbeats 40000000 in
set_option maxRecDepth 100000 in
theorem r_truths {m : Mb} {A : Ma} (set : Nat) {w : World} (hv : validM m = true) (hm : MbAt w m A) (hset : set < 2 ^ 62) :
    Calls Try.prog 72 #[mv m A, .int .i64 set] w (fun e w' => ∃ v, e = .returned v ∧ TruthsAt w' v (truthsM m set) ∧ Below w.heap.size w w') := by
  obtain ⟨i0, hi0, hz0, hz1, hz2⟩ := info_of Try.info39
  obtain ⟨j0, hj0, kz0, kz1, kz2⟩ := info_of Try.info98
  have hl := validM_len hv
  have hhd := hm.herds
  have hlg := hm.legs
  have hh4 : (m.herds.length : Int) ≤ 4 := by omega
  rcases A with ⟨pa, pc, la, lc, ha, hc, sa, sc⟩
  have HRt := Lib.hid (fun (L D : List Int) la' lc' da dc W (hb : Below w.heap.size w W) (h1 : L ∈ prodL m.legs) (h2 : D ∈ prodL (leavesL m)) (hL : IntsM W la' L) (hD : IntsM W da D) => r_right (A := ⟨pa, pc, la, lc, ha, hc, sa, sc⟩) (lc := lc') (dc := dc) set hv (trOk_of h1 h2) (hm.below hb) hL hD hset)
  have HLv := Lib.hid (fun (i : Nat) (hi : i < m.herds.length) => validM_herd hv hi)
  have HLg := Lib.hid (fun (i : Nat) (hi : i < m.legs.length) => validM_leg hv hi)
  have HN1 := Lib.hid (legs_len hv)
  have HN2 := Lib.hid (leaves_len hv)
  clear hv hset
  unfold mv mcells at *
  simp only at *
  go_enter Try.func72, Try.ntmps72
  go_wp2_with fail
  obtain ⟨W1, hW1⟩ : ∃ W1, W1 = w.alloc (.cells #[.slice pa m.places.length pc, .slice la m.legs.length lc, .slice ha m.herds.length hc, .slice sa m.seen.length sc] 27) := ⟨_, rfl⟩
  have hB1 : Below w.heap.size w W1 := by rw [hW1]; exact (Below.refl _ _).alloc (Nat.le_refl _) _
  have bm : Blk W1 w.heap.size #[.slice pa m.places.length pc, .slice la m.legs.length lc, .slice ha m.herds.length hc, .slice sa m.seen.length sc] 27 := by rw [hW1]; exact Blk.new _ _ _
  have hz : W1.heap.size = w.heap.size + 1 := by rw [hW1]; simp
  rw [← hW1]
  clear hW1
  generalize hz0' : w.heap.size = z0 at *
  have HZ0 := Lib.hid hz0'
  clear hz0'
  go_loopw [5, 6] (fun x i wr => ∃ (k : Nat), k ≤ m.herds.length ∧ i = .int .i64 k ∧ wr.ownsRow W1.heap.size 39 2 x ((leavesL m).take k).length (((leavesL m).take k).flatMap spc) ∧ Below W1.heap.size W1 wr) (fun _ i _ => m.herds.length - (intOf i).toNat)
  case atStart => exact ⟨0, Nat.zero_le _, rfl, World.ownsRow_nil _ _ _ _, Below.refl _ _⟩
  case round =>
    obtain ⟨k, hk, rfl, hown, hBr⟩ := hrel
    have bmr := bm.below hBr bm.lt
    have rm := bmr.cell
    have hBw := hB1.trans (hBr.mono (by omega))
    have hsr := hBr.size
    have hll : (leavesL m).length = m.herds.length := by unfold leavesL; simp
    have htl : ((leavesL m).take k).length = k := by rw [List.length_take]; omega
    by_cases hlt : k < m.herds.length
    · obtain ⟨gb, go, rfl, e1, e2, e3, e4⟩ := hhd.get4 hlt
      have hgb : gb < z0 := by have h := World.block_lt_of_cell? w _ e1; rw [HZ0.out] at h; exact h
      have i2 := (hBw.cell (p := ⟨gb, go + k * 4 + 1, none⟩) hgb).trans e2
      have i3 := (hBw.cell (p := ⟨gb, go + k * 4 + 2, none⟩) hgb).trans e3
      have hlti : (k : Int) < m.herds.length := by omega
      have HTK : Hid ((leavesL m).take (k + 1) = (leavesL m).take k ++ [((m.herds[k]).2.1, (m.herds[k]).2.2.1)]) := by
        show _ = _
        rw [List.take_succ_eq_append_getElem (by omega)]; simp [leavesL]
      rw [htl] at hown
      generalize m.herds[k] = x at *
      obtain ⟨x1, x2, x3, x4⟩ := x
      simp only at *
      clear e1 e2 e3 e4
      go_wp2_with (first
        | (at_builtin; refine at_stop ?_))
      unfold Stop
      refine wpList_append_own _ rfl (.tmp 20) (.tmp 27) 23 rfl W1.heap.size 39 i0 (.agg #[.int .i64 0, .int .i64 0]) 2 16 Try.underlying23 hi0 hz0 hz1 hz2 rfl (by decide) u5 k (((leavesL m).take k).flatMap spc) rfl (World.ownsRow.alloc hown _) ⟨wr.heap.size, 0, none⟩ 1 1 (spc (x2, x3)) rfl rfl (news_blk (A := #[.int .i64 x2, .int .i64 x3]) (Blk.new _ _ _)) (by simp [spc, Value.oneCell']) (by unfold maxLen; omega) (by omega) (by simp; omega) ?_
      intro v6 w6 hown6 hgrow6 _
      have hB6 : Below W1.heap.size W1 w6 := (hBr.alloc (by omega) _).grown hgrow6 (by simp; omega) (fun g e => (hown.lt g e).1)
      clear hgrow6 i2 i3
      go_wp2_with fail
      refine ⟨⟨k + 1, by omega, by go_num, ?_, hB6⟩, by simp [intOf]; omega⟩
      rw [HTK.out, List.length_append, htl, List.flatMap_append]
      simpa using hown6
    · have hlti : ¬ (k : Int) < (m.herds.length : Int) := by omega
      have e : k = m.herds.length := by omega
      subst e
      rw [List.take_of_length_le (by omega)] at hown
      obtain ⟨a, c, rfl, hsp, hspb⟩ := own_spans hown
      have hsq := hBw.size
      have hL1 : Hid (∀ W, Below wr.heap.size wr W → RowsAt W la 2 spc m.legs) := fun W hW => hlg.below (by rw [HZ0.out]; exact hBw.trans (hW.mono (by have := bmr.lt; omega)))
      have hL2 : Hid (∀ W, Below wr.heap.size wr W → RowsAt W a 2 spc (leavesL m)) := fun W hW => hsp.below hW
      have hI1 := r_lists m.legs la lc wr.heap.size wr (Nat.le_refl _) hL1.out (by omega) (fun p hp => by
        obtain ⟨i, hi, rfl⟩ := List.mem_iff_getElem.1 hp
        have := HLg.out i hi
        rw [List.getD_eq_getElem?_getD, List.getElem?_eq_getElem hi, Option.getD_some] at this
        omega) m.legs.length [] (by simp) wr (.slice none 0 0) (.slice none 0 0) [] (Below.refl _ _) ⟨none, 0, rfl, .inl rfl⟩ (World.ownsRow_nil _ _ _ _) (by have := HN1.out; simp [extL]; omega)
      have hv2 : ∀ p ∈ leavesL m, -1000 ≤ p.1 ∧ p.1 ≤ 1000 ∧ -1000 ≤ p.2 ∧ p.2 ≤ 1000 := fun p hp => by
        unfold leavesL at hp
        obtain ⟨q, hq, rfl⟩ := List.mem_map.1 hp
        obtain ⟨i, hi, rfl⟩ := List.mem_iff_getElem.1 hq
        have := HLv.out i hi
        rw [List.getD_eq_getElem?_getD, List.getElem?_eq_getElem hi, Option.getD_some] at this
        omega
      have hI2 : Hid (∀ W, Below wr.heap.size wr W → Calls Try.prog 101 #[.slice a (leavesL m).length c, .slice none 0 0, .slice none 0 0] W (ListsPost W.heap.size (.slice none 0 0) [] (extL (leavesL m) []) W)) := fun W hW =>
        r_lists (leavesL m) a c W.heap.size W (Nat.le_refl _) (fun W' hW' => hL2.out W' (hW.trans (hW'.mono hW.size))) (by omega) hv2 (leavesL m).length [] (by simp) W (.slice none 0 0) (.slice none 0 0) [] (Below.refl _ _) ⟨none, 0, rfl, .inl rfl⟩ (World.ownsRow_nil _ _ _ _) (by have := HN2.out; simp [extL]; omega)
      have hx1 : extL m.legs [] = prodL m.legs := by simp [extL]
      have hx2 : extL (leavesL m) [] = prodL (leavesL m) := by simp [extL]
      rw [hx1] at hI1
      rw [hx2] at hI2
      clear hx1 hx2 hown hL1 hL2 hv2 hlg hhd HLg HLv hsp hspb
      rw [hll] at *
      go_wp2_with (first
        | (go_at_call 101; refine hI1.mono ?_; rintro e w2 ⟨v2, ys2, rfl, hown2, hs2, hk2⟩; refine at_stop ?_))
      unfold Stop
      have hB2 : Below wr.heap.size wr w2 := hk2.below (Nat.le_refl _)
      simp only [List.length_nil, Nat.zero_add, List.nil_append] at hown2
      go_wp2_with (first
        | (go_at_call 101; refine (hI2.out _ hB2).mono ?_; rintro e w3 ⟨v3, ys3, rfl, hown3, hs3, hk3⟩; refine at_stop ?_))
      unfold Stop
      simp only [List.length_nil, Nat.zero_add, List.nil_append] at hown3
      have hB3 : Below w2.heap.size w2 w3 := hk3.below (Nat.le_refl _)
      have hown2' := ownsRow_below hown2 hB3
      have hs2' := hs2.keep (KeepT.of_below hB3 : KeepT 0 50 w2 w3) (by decide)
      have hBa := (hBw.trans (hB2.mono (by have := bmr.lt; omega))).trans (hB3.mono (by have := bmr.lt; have := hB2.size; omega))
      have bm3 := (bmr.below hB2 bmr.lt).below hB3 (by have := bmr.lt; have := hB2.size; omega)
      have hn1 := HN1.out
      have hn2 := HN2.out
      clear hI1 hI2 hk2 hk3 hown2 hs2 hB2 hB3 hBw hBr bmr rm bm hB1 hz hsr hsq
      obtain ⟨a2, c2, rfl⟩ := own_any hown2'
      obtain ⟨a3, c3, rfl⟩ := own_any hown3
      have hT : Hid (truthsM m set = (prodL m.legs).flatMap fun L => ((prodL (leavesL m)).filter fun D => rightM m L D set).map fun D => (L, D)) := rfl
      obtain ⟨PL, hPL⟩ : ∃ PL, prodL m.legs = PL := ⟨_, rfl⟩
      obtain ⟨PD, hPD⟩ : ∃ PD, prodL (leavesL m) = PD := ⟨_, rfl⟩
      rw [hPL] at hs2' hown2' hn1 hT HRt
      rw [hPD] at hs3 hown3 hn2 hT HRt
      rw [hPL, hPD]
      have hNA : (PL.length : Int) ≤ 243 := by omega
      have hND : (PD.length : Int) ≤ 256 := by omega
      go_wp2_with fail
      have hz3 := bm3.lt
      go_loopw [9, 10] (fun x i wr => ∃ (k : Nat) (cs : List Value), k ≤ PL.length ∧ i = .int .i64 k ∧ wr.ownsRow w3.heap.size 98 2 x (tO (fun L D => rightM m L D set) PL PD k).length cs ∧ TRow wr cs (tO (fun L D => rightM m L D set) PL PD k) ∧ Below w3.heap.size w3 wr) (fun _ i _ => PL.length - (intOf i).toNat)
      case atStart => exact ⟨0, [], Nat.zero_le _, rfl, World.ownsRow_nil _ _ _ _, ⟨rfl, fun i hi => by simp [tO] at hi⟩, Below.refl _ _⟩
      case round =>
        obtain ⟨i, cs, hi, rfl, hown, htr, hBr⟩ := hrel
        by_cases hlt : i < PL.length
        · have hlti : (i : Int) < (PL.length : Int) := by omega
          obtain ⟨g2, d2, y2, e2, hg2, cy2, hy2⟩ := row_get hown2' hs2' hlt
          simp only [Value.slice.injEq] at e2
          obtain ⟨rfl, -, -⟩ := e2
          have hLm : PL[i] ∈ PL := List.getElem_mem hlt
          have HTO := Lib.hid (tO_succ (fun L D => rightM m L D set) PL PD hlt)
          have hbd := tO_len (fun L D => rightM m L D set) PL PD i
          generalize PL[i] = L at *
          go_wp2_with fail
          go_loopw [9, 11] (fun x k wq => ∃ (j : Nat) (cs : List Value), j ≤ PD.length ∧ k = .int .i64 j ∧ wq.ownsRow w3.heap.size 98 2 x (tO (fun L D => rightM m L D set) PL PD i ++ tI (fun L D => rightM m L D set) L PD j).length cs ∧ TRow wq cs (tO (fun L D => rightM m L D set) PL PD i ++ tI (fun L D => rightM m L D set) L PD j) ∧ Below w3.heap.size w3 wq) (fun _ k _ => PD.length - (intOf k).toNat)
          case atStart => exact ⟨0, cs, Nat.zero_le _, rfl, by simpa [tI] using hown, by simpa [tI] using htr, hBr⟩
          case round =>
            obtain ⟨j, cs', hj, rfl, hown', htr', hBq⟩ := hrel
            have hsq := hBq.size
            have bmq := bm3.below hBq bm3.lt
            by_cases hjt : j < PD.length
            · have hjti : (j : Int) < (PD.length : Int) := by omega
              obtain ⟨g3, d3, y3, e3, hg3, cy3, hy3⟩ := row_get hown3 hs3 hjt
              simp only [Value.slice.injEq] at e3
              obtain ⟨rfl, -, -⟩ := e3
              have hDm : PD[j] ∈ PD := List.getElem_mem hjt
              have HTI := Lib.hid (tI_succ (fun L D => rightM m L D set) L PD hjt)
              have hbi := tI_len (fun L D => rightM m L D set) L PD j
              have hTb : (tO (fun L D => rightM m L D set) PL PD i ++ tI (fun L D => rightM m L D set) L PD j).length ≤ 70000 := by
                rw [List.length_append]
                have := Nat.mul_le_mul hn1 hn2
                omega
              generalize PD[j] = D at *
              have q2 := (hBq.cell (p := ⟨g2, i, none⟩) hg2).trans cy2
              have q3 := (hBq.cell (p := ⟨g3, j, none⟩) hg3).trans cy3
              have hyr2 := hy2.keep (KeepT.of_below hBq : KeepT 0 50 w3 wr) (by decide)
              have hyr3 := hy3.keep (KeepT.of_below hBq : KeepT 0 50 w3 wr) (by decide)
              obtain ⟨a4, d4, rfl, hL4⟩ := hyr2.ints
              obtain ⟨a5, d5, rfl, hD5⟩ := hyr3.ints
              generalize hTT : tO (fun L D => rightM m L D set) PL PD i ++ tI (fun L D => rightM m L D set) L PD j = T at *
              have HTT := Lib.hid hTT
              clear hTT
              have hL4' := Lib.hid hL4
              have hD5' := Lib.hid hD5
              clear hL4 hD5 hown htr cy2 cy3 hs2' hs3 hown2' hown3
              go_wp2_with fail
              refine Ord.wp_region [(0, 1), (1, 1), (2, 1), (3, 1), (4, 1), (5, 1), (6, 1), (7, 1), (8, 1), (9, 2), (10, 2)] (fun W' => Below wr.heap.size wr W') (by kernel_rfl) (by kernel_rfl) (fun c a d v w h => by cases d <;> exact h) (Below.refl _ _).drew ?_
              go_upto_region 15 with (first
                | ((with_reducible refine Ord.at_wild ?_); refine Ord.wild_idx (.pointer (some ⟨g2, i, none⟩)) rfl ?_ ?_; (focus (intro W hW; simp [go_sem, hlti, go_sem]; done)); intro K hK)
                | ((with_reducible refine Ord.at_wild ?_); refine Ord.wild_idx (.pointer (some ⟨g3, j, none⟩)) rfl ?_ ?_; (focus (intro W hW; simp [go_sem, hjti, go_sem]; done)); intro K hK)
                | ((with_reducible refine Ord.at_wild ?_); refine Ord.wild_load (ad := ⟨g2, i, none⟩) (.slice a4 L.length d4) rfl rfl ?_ ?_; (focus (intro W hW; obtain ⟨cW, _, zW⟩ := below_rules hW rfl; simp [go_sem, cW, ↓IntWalk.iteOmega, q2]; done)); intro K hK)
                | ((with_reducible refine Ord.at_wild ?_); refine Ord.wild_load (ad := ⟨g3, j, none⟩) (.slice a5 D.length d5) rfl rfl ?_ ?_; (focus (intro W hW; obtain ⟨cW, _, zW⟩ := below_rules hW rfl; simp [go_sem, cW, ↓IntWalk.iteOmega, q3]; done)); intro K hK)
                | ((with_reducible refine Ord.at_wild ?_); refine Ord.wild_build (.agg #[.slice a4 L.length d4, .slice a5 D.length d5]) rfl ?_ ?_; (focus (intro W hW; simp [go_sem]; done)); intro K hK)
                | ((with_reducible refine Ord.at_calm ?_); refine Ord.calm_skip rfl ?_ (fun K hK => ?_); (focus (simp [Region.wanted, yielded]; done))) | with_reducible refine Ord.walk_calm rfl rfl (fun K hK => ?_) | ((with_reducible refine Ord.at_wild ?_); refine Ord.wild_fieldAddr rfl rfl (fun W => by simp [go_sem]; rfl) (fun K hK => ?_)) | ((with_reducible refine Ord.at_wild ?_); refine Ord.wild_move rfl rfl (fun K hK => ?_)) | ((with_reducible refine Ord.at_wild ?_); refine Ord.wild_nilCheck rfl rfl (fun K hK => ?_)) | with_reducible refine Ord.walk_eff rfl (by first | (simp; done) | assumption | (go_simp; done) | (repeat (first | assumption | exact Below.refl _ _ | refine Below.drew ?_ | refine Below.alloc ?_ (by first | omega | (simp; done) | (simp; omega)) _ | refine Below.setCell ?_ (by first | omega | (simp; done) | (simp; omega)) _ | refine Below.trans ?_ (Below.mono (by assumption) (by first | omega | (simp; done) | (simp; omega)))))) (fun K hK => ?_) | with_reducible refine Ord.at_fork ?_ ?_ | with_reducible refine Ord.walk_nil ?_ | (with_reducible refine Ord.next_of (by first | (simp; done) | (go_simp; done) | (repeat (first | assumption | exact Below.refl _ _ | refine Below.drew ?_ | refine Below.alloc ?_ (by first | omega | (simp; done) | (simp; omega)) _ | refine Below.setCell ?_ (by first | omega | (simp; done) | (simp; omega)) _ | refine Below.trans ?_ (Below.mono (by assumption) (by first | omega | (simp; done) | (simp; omega)))))) (fun _ => ?_)))
              obtain ⟨W4, hW4⟩ : ∃ W4, (wr.alloc (.cells #[.slice a4 L.length d4, .slice a5 D.length d5] 98)).drew = W4 := ⟨_, rfl⟩
              have hB4 : Below wr.heap.size wr W4 := by rw [← hW4]; exact ((Below.refl _ _).alloc (Nat.le_refl _) _).drew
              have b12 : Blk W4 wr.heap.size #[.slice a4 L.length d4, .slice a5 D.length d5] 98 := by rw [← hW4]; exact (Blk.new _ _ _).drew
              have hz4 : W4.heap.size = wr.heap.size + 1 := by rw [← hW4]; simp
              rw [hW4]
              clear hW4 q2 q3
              have bm4 := bmq.below hB4 bmq.lt
              have hBw4 := (hBa.trans (hBq.mono (by omega))).trans (hB4.mono (by omega))
              have hown4 := ownsRow_below hown' hB4
              have htr4 := htr'.keep (KeepT.of_below hB4 : KeepT 0 50 wr W4) (by decide)
              have hR := HRt.out L D a4 d4 a5 d5 W4 hBw4 hLm hDm (hL4'.out.below hB4) (hD5'.out.below hB4)
              have hyr4 := hyr2.keep (KeepT.of_below hB4 : KeepT 0 50 wr W4) (by decide)
              have hyr5 := hyr3.keep (KeepT.of_below hB4 : KeepT 0 50 wr W4) (by decide)
              clear hL4' hD5' hyr2 hyr3 hown' htr' hy2 hy3
              unfold tv at hR
              cases hr : rightM m L D set
              · rw [hr] at hR
                go_wp2_with (first
                  | (refine wpList_load_blk 27 (.tmp 2) agg_mob rfl rfl rfl bm4 rfl ?_)
                  | (refine wpList_load_blk 98 (.tmp 12) agg_truth rfl rfl rfl b12 rfl ?_)
                  | (go_at_call 102; refine hR.mono ?_; rintro e w5 ⟨rfl, hb5⟩))
                have eT : tO (fun L D => rightM m L D set) PL PD i ++ tI (fun L D => rightM m L D set) L PD (j + 1) = T := by
                  rw [HTI.out, hr]; simpa using HTT.out
                refine ⟨⟨j + 1, cs', by omega, by go_num, ?_, ?_, (hBq.trans (hB4.mono hsq)).trans (hb5.mono (by omega))⟩, by simp [intOf]; omega⟩
                · rw [eT]; exact ownsRow_below hown4 hb5
                · rw [eT]; exact htr4.keep (KeepT.of_below hb5 : KeepT 0 50 W4 w5) (by decide)
              · rw [hr] at hR
                go_wp2_with (first
                  | (refine wpList_load_blk 27 (.tmp 2) agg_mob rfl rfl rfl bm4 rfl ?_)
                  | (refine wpList_load_blk 98 (.tmp 12) agg_truth rfl rfl rfl b12 rfl ?_)
                  | (go_at_call 102; refine hR.mono ?_; rintro e w5 ⟨rfl, hb5⟩; replace b12 := b12.below hb5 b12.lt)
                  | (at_builtin; refine at_stop ?_))
                unfold Stop
                have hown5 := ownsRow_below hown4 hb5
                have hs5 := hb5.size
                have hB5 := (hBq.trans (hB4.mono hsq)).trans (hb5.mono (by omega))
                refine wpList_append_own _ rfl (.tmp 59) (.tmp 61) 93 rfl w3.heap.size 98 j0 (.agg #[.slice none 0 0, .slice none 0 0]) 2 48 Try.underlying93 hj0 kz0 kz1 kz2 rfl (by decide) u9 T.length cs' rfl (World.ownsRow.alloc hown5 _) ⟨w5.heap.size, 0, none⟩ 1 1 [.slice a4 L.length d4, .slice a5 D.length d5] rfl rfl (news_blk (A := #[.slice a4 L.length d4, .slice a5 D.length d5]) (Blk.new _ _ _)) (by simp [Value.oneCell']) (by unfold maxLen; omega) (by omega) (by simp; omega) ?_
                intro v6 w6 hown6 hgrow6 _
                have hk6 : KeepT w3.heap.size 98 W4 w6 := ((KeepT.of_below hb5).alloc _).trans (KeepT.of_grown (World.ownsRow.alloc hown5 _) hgrow6)
                have hB6 : Below w3.heap.size w3 w6 := (hB5.alloc (by omega) _).grown hgrow6 (by simp; omega) (fun g e => (hown5.lt g e).1)
                have eT : tO (fun L D => rightM m L D set) PL PD i ++ tI (fun L D => rightM m L D set) L PD (j + 1) = T ++ [(L, D)] := by
                  rw [HTI.out, hr, ← List.append_assoc, HTT.out]; rfl
                clear hgrow6
                go_wp2_with fail
                refine ⟨⟨j + 1, cs' ++ [.slice a4 L.length d4, .slice a5 D.length d5], by omega, by go_num, ?_, ?_, hB6⟩, by simp [intOf]; omega⟩
                · rw [eT, List.length_append]; exact hown6
                · rw [eT]; exact (htr4.keep hk6 (by decide)).snoc (hyr4.keep hk6 (by decide)) (hyr5.keep hk6 (by decide))
            · have hjti : ¬ (j : Int) < (PD.length : Int) := by omega
              have e : j = PD.length := by omega
              subst e
              clear hown htr
              go_wp2_with fail
              refine ⟨⟨i + 1, cs', by omega, by go_num, ?_, ?_, hBq⟩, by simp [intOf]; omega⟩
              · rw [HTO.out]; exact hown'
              · rw [HTO.out]; exact htr'
        · have hlti : ¬ (i : Int) < (PL.length : Int) := by omega
          have e : i = PL.length := by omega
          subst e
          go_wp2_with fail
          go_ret
          refine ⟨_, rfl, ?_, by rw [HZ0.out]; exact hBa.trans (hBr.mono (by omega))⟩
          rw [hT.out, ← tO_all]
          exact htr.at hown
end Go.Proofs.Yteeinehpneppnaa
