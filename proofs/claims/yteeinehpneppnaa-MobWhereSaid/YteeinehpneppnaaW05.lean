/- Parts of a proof: MbD, MbE. -/
import Derived.Test.YteeinehpneppnaaW04
import Derived.Deep.CutRange
/- shearworksref01: on which day a mob comes to a place, goes on from one. -/
set_option linter.unusedVariables false
set_option linter.unusedSimpArgs false
namespace Go.Proofs.Yteeinehpneppnaa
open Go.RowKit Go.Proofs
attribute [local irreducible] Ord.walk
def itc (x : Int) : List Value := [.int .i64 x]
abbrev IntsM (w : World) (a : Option Addr) (l : List Int) : Prop := RowsAt w a 1 itc l
theorem RowsAt.get1 {w : World} {a : Option Addr} {l : List Int} (h : IntsM w a l) {i : Nat} (hi : i < l.length) :
    ∃ gb go, a = some ⟨gb, go, none⟩ ∧ w.cell? ⟨gb, go + i, none⟩ = some (.int .i64 l[i]) := by
  obtain ⟨gb, go, h0, h1⟩ := h i hi
  refine ⟨gb, go, h0, ?_⟩
  have := h1 0 _ rfl
  rwa [Nat.mul_one, Nat.add_zero] at this
def waterB (m : Mb) (p : Nat) : Bool := ((m.places[p]?).getD (false, 0)).1
def restI (m : Mb) (p : Nat) : Int := ((m.places[p]?).getD (false, 0)).2
/-- How long a mob stays at a place, k places behind its start. -/
def stayK (m : Mb) (s k : Nat) : Int := if 0 < k ∧ waterB m (s + k) = true then restI m (s + k) else 0
/-- On which day a mob comes to the place that is k places behind its start. -/
def inK (m : Mb) (L : List Int) (s : Nat) (d : Int) : Nat → Int
  | 0 => d
  | k + 1 => inK m L s d k + stayK m s k + L.getD (s + k) 0
def onK (m : Mb) (L : List Int) (s : Nat) (d : Int) (k : Nat) : Int := inK m L s d k + stayK m s k
/-- A truth that can be. -/
structure TrOk (m : Mb) (L D : List Int) : Prop where
  legs : L.length = m.legs.length
  leaves : D.length = m.herds.length
  legIn : ∀ i, (h : i < L.length) → (m.legs.getD i (0, 0)).1 ≤ L[i] ∧ L[i] ≤ (m.legs.getD i (0, 0)).2
  dayIn : ∀ i, (h : i < D.length) → (m.herds.getD i (0, 0, 0, 0)).2.1 ≤ D[i] ∧ D[i] ≤ (m.herds.getD i (0, 0, 0, 0)).2.2.1
theorem validM_head {m : Mb} (h : validM m = true) : headM m = true := by unfold validM at h; rw [Bool.and_eq_true] at h; exact h.1
theorem validM_len {m : Mb} (h : validM m = true) : 2 ≤ m.places.length ∧ m.places.length ≤ 6 ∧ m.legs.length + 1 = m.places.length ∧ m.herds.length ≤ 4 ∧ m.seen.length ≤ 5 := by
  have h1 := validM_head h
  unfold headM at h1
  simp only [Bool.and_eq_true, decide_eq_true_eq] at h1
  obtain ⟨a, b, c, d⟩ := h1
  have := inB_of a
  omega
theorem validM_Mlen {m : Mb} (h : validM m = true) : Mlen m := by
  have := validM_len h
  exact ⟨by omega, by omega, by omega, by omega⟩
theorem validM_rest {m : Mb} (h : validM m = true) (p : Nat) : 0 ≤ restI m p ∧ restI m p ≤ 3 := by
  unfold restI
  cases hp : m.places[p]? with
  | none => simp
  | some x =>
    unfold validM at h
    simp only [Bool.and_eq_true] at h
    have := List.all_eq_true.1 h.2.1 x (List.mem_of_getElem? hp)
    exact inB_of this
theorem validM_leg {m : Mb} (h : validM m = true) {i : Nat} (hi : i < m.legs.length) : 1 ≤ (m.legs.getD i (0, 0)).1 ∧ (m.legs.getD i (0, 0)).1 ≤ (m.legs.getD i (0, 0)).2 ∧ (m.legs.getD i (0, 0)).2 ≤ 5 ∧ (m.legs.getD i (0, 0)).2 - (m.legs.getD i (0, 0)).1 ≤ 2 := by
  unfold validM at h
  simp only [Bool.and_eq_true] at h
  have h1 := List.all_eq_true.1 h.2.2.1 _ (List.getElem_mem hi)
  rw [List.getD_eq_getElem?_getD, List.getElem?_eq_getElem hi]
  simpa [lgOk, spanM] using h1
theorem validM_herd {m : Mb} (h : validM m = true) {i : Nat} (hi : i < m.herds.length) : 0 ≤ (m.herds.getD i (0, 0, 0, 0)).1 ∧ (m.herds.getD i (0, 0, 0, 0)).1 ≤ (m.places.length : Int) - 2 ∧ 0 ≤ (m.herds.getD i (0, 0, 0, 0)).2.1 ∧ (m.herds.getD i (0, 0, 0, 0)).2.1 ≤ (m.herds.getD i (0, 0, 0, 0)).2.2.1 ∧ (m.herds.getD i (0, 0, 0, 0)).2.2.1 ≤ 30 ∧
    (m.herds.getD i (0, 0, 0, 0)).2.2.1 - (m.herds.getD i (0, 0, 0, 0)).2.1 ≤ 3 ∧ 0 ≤ (m.herds.getD i (0, 0, 0, 0)).2.2.2 ∧ (m.herds.getD i (0, 0, 0, 0)).2.2.2 ≤ 20 := by
  unfold validM at h
  simp only [Bool.and_eq_true] at h
  have h1 := List.all_eq_true.1 h.2.2.2.1 _ (List.getElem_mem hi)
  rw [List.getD_eq_getElem?_getD, List.getElem?_eq_getElem hi]
  simp only [hdOk, Bool.and_eq_true] at h1
  have h2 := inB_of h1.1
  have h3 := inB_of h1.2.2
  have h4 := h1.2.1
  simp only [spanM, decide_eq_true_eq] at h4
  simp only [Option.getD_some]
  omega
theorem stay_in {m : Mb} (hv : validM m = true) (s k : Nat) : 0 ≤ stayK m s k ∧ stayK m s k ≤ 3 := by
  unfold stayK
  split
  · exact validM_rest hv _
  · omega
theorem leg_in {m : Mb} (hv : validM m = true) {L D : List Int} (ht : TrOk m L D) (i : Nat) : 0 ≤ L.getD i 0 ∧ L.getD i 0 ≤ 5 := by
  rw [List.getD_eq_getElem?_getD]
  by_cases hi : i < L.length
  · have h1 := ht.legIn i hi
    have h2 := validM_leg hv (i := i) (by rw [← ht.legs]; exact hi)
    rw [List.getElem?_eq_getElem hi, Option.getD_some]
    omega
  · rw [List.getElem?_eq_none (by omega)]; simp
theorem day_in {m : Mb} (hv : validM m = true) {L D : List Int} (ht : TrOk m L D) (h : Nat) : 0 ≤ D.getD h 0 ∧ D.getD h 0 ≤ 30 := by
  rw [List.getD_eq_getElem?_getD]
  by_cases hi : h < D.length
  · have h1 := ht.dayIn h hi
    have h2 := validM_herd hv (i := h) (by rw [← ht.leaves]; exact hi)
    rw [List.getElem?_eq_getElem hi, Option.getD_some]
    omega
  · rw [List.getElem?_eq_none (by omega)]; simp
theorem inK_in {m : Mb} (hv : validM m = true) {L D : List Int} (ht : TrOk m L D) (s : Nat) {d : Int} (h0 : 0 ≤ d) (h1 : d ≤ 30) : ∀ k, 0 ≤ inK m L s d k ∧ inK m L s d k ≤ 30 + 8 * (k : Int)
  | 0 => by simp only [inK]; omega
  | k + 1 => by
    have ih := inK_in hv ht s h0 h1 k
    have h2 := stay_in hv s k
    have h3 := leg_in hv ht (s + k)
    simp only [inK]
    omega
abbrev tv (L D : List Int) (la : Option Addr) (lc : Nat) (da : Option Addr) (dc : Nat) : Value := .agg #[.slice la L.length lc, .slice da D.length dc]
def InsK (m : Mb) (A : Ma) (L D : List Int) (la : Option Addr) (lc : Nat) (da : Option Addr) (dc : Nat) (h s k : Nat) (w : World) : Prop :=
  ∀ W, Below w.heap.size w W → Calls Try.prog 52 #[mv m A, tv L D la lc da dc, .int .i64 h, .int .i64 ((s + k : Nat) : Int)] W (Gives (.int .i64 (inK m L s (D.getD h 0) k)) W)
def OnsK (m : Mb) (A : Ma) (L D : List Int) (la : Option Addr) (lc : Nat) (da : Option Addr) (dc : Nat) (h s k : Nat) (w : World) : Prop :=
  ∀ W, Below w.heap.size w W → Calls Try.prog 96 #[mv m A, tv L D la lc da dc, .int .i64 h, .int .i64 ((s + k : Nat) : Int)] W (Gives (.int .i64 (onK m L s (D.getD h 0) k)) W)
section
variable {m : Mb} {A : Ma} {L D : List Int} {la : Option Addr} {lc : Nat} {da : Option Addr} {dc : Nat} {h s : Nat} {w : World}
set_option maxHeartbeats 4000000 in
set_option maxRecDepth 100000 in
theorem ins_zero (hv : validM m = true) (ht : TrOk m L D) (hm : MbAt w m A) (hD : IntsM w da D) (hh : h < m.herds.length) (hs : (m.herds[h]).1 = (s : Int)) : InsK m A L D la lc da dc h s 0 w := by
  intro W hb
  have hl := validM_len hv
  have hh4 : (h : Int) < (m.herds.length : Int) := by omega
  have hl4 : (m.herds.length : Int) ≤ 4 := by omega
  have hdl : D.length = m.herds.length := ht.leaves
  have hd4 : (h : Int) < (D.length : Int) := by omega
  have hdl4 : (D.length : Int) ≤ 4 := by omega
  obtain ⟨gb, go, e0, e1, -⟩ := (hm.below hb).herds.get4 hh
  obtain ⟨db, dd, d0, d1⟩ := (hD.below hb).get1 (i := h) (by omega)
  have hgb := World.block_lt_of_cell? W _ e1
  have hdb := World.block_lt_of_cell? W _ d1
  simp only at hgb hdb
  have hde : D.getD h 0 = D[h] := by rw [List.getD_eq_getElem?_getD, List.getElem?_eq_getElem (by omega)]; rfl
  rw [hs] at e1
  rw [hde]
  simp only [Nat.add_zero, inK]
  rcases A with ⟨pa, pc, la', lc', ha, hc, sa, sc⟩
  simp only at e0
  subst e0 d0
  clear hde hm hD hb ht hv hs
  generalize D[h] = x at *
  unfold mv mcells tv
  simp only
  go_enter Try.func52, Try.ntmps52
  go_wp2_with fail
  go_ret
  exact ⟨rfl, ((Below.refl _ _).alloc (Nat.le_refl _) _).alloc (by first | omega | (simp; done) | (simp; omega)) _⟩
set_option maxHeartbeats 4000000 in
set_option maxRecDepth 100000 in
theorem ons_of (hv : validM m = true) (ht : TrOk m L D) (hm : MbAt w m A) (hh : h < m.herds.length) (hs : (m.herds[h]).1 = (s : Int)) {k : Nat} (hk : s + k < m.places.length) (hi : InsK m A L D la lc da dc h s k w) : OnsK m A L D la lc da dc h s k w := by
  intro W hb
  have hl := validM_len hv
  have hh4 : (h : Int) < (m.herds.length : Int) := by omega
  have hl4 : (m.herds.length : Int) ≤ 4 := by omega
  have hp4 : ((s + k : Nat) : Int) < (m.places.length : Int) := by omega
  have hpl : (m.places.length : Int) ≤ 6 := by omega
  have hdy := day_in hv ht h
  have hbnd := inK_in hv ht s hdy.1 hdy.2 k
  have hrs := validM_rest hv (s + k)
  have HI : Hid (∀ W', Below W.heap.size W W' → Calls Try.prog 52 #[mv m A, tv L D la lc da dc, .int .i64 h, .int .i64 ((s + k : Nat) : Int)] W' (Gives (.int .i64 (inK m L s (D.getD h 0) k)) W')) := fun W' hb' => hi W' (hb.trans (hb'.mono hb.size))
  obtain ⟨gb, go, e0, e1, -⟩ := (hm.below hb).herds.get4 hh
  obtain ⟨qb, qo, q0, q1, q2⟩ := (hm.below hb).places.getP hk
  have hgb := World.block_lt_of_cell? W _ e1
  have hqb := World.block_lt_of_cell? W _ q1
  simp only at hgb hqb
  have hw1 : waterB m (s + k) = m.places[s + k].1 := by unfold waterB; rw [List.getElem?_eq_getElem hk]; rfl
  have hw2 : restI m (s + k) = m.places[s + k].2 := by unfold restI; rw [List.getElem?_eq_getElem hk]; rfl
  have HO : Hid (onK m L s (D.getD h 0) k = inK m L s (D.getD h 0) k + if 0 < k ∧ m.places[s + k].1 = true then m.places[s + k].2 else 0) := by
    show _ = _
    unfold onK stayK
    rw [hw1, hw2]
  rw [hs] at e1
  rw [hw2] at hrs
  have hsk : (s : Int) < ((s + k : Nat) : Int) ∨ k = 0 := by omega
  rcases A with ⟨pa, pc, la', lc', ha, hc, sa, sc⟩
  simp only at e0 q0
  subst e0 q0
  have hk18 : (k : Int) ≤ 6 := by omega
  clear hm hb ht hv hs hi hw1 hw2
  generalize onK m L s (D.getD h 0) k = R at *
  generalize inK m L s (D.getD h 0) k = n at *
  generalize m.places[s + k] = pl at *
  obtain ⟨wt, rs⟩ := pl
  generalize hpp : s + k = p at *
  simp only at *
  unfold mv mcells tv at *
  simp only at *
  rcases hsk with hsk | hk0
  · have hk0 : 0 < k := by omega
    have hk1 : ¬ k = 0 := by omega
    cases wt
    · skip
      have hB2 : Below W.heap.size W ((W.alloc (.cells #[.slice (some ⟨qb, qo, none⟩) m.places.length pc, .slice la' m.legs.length lc', .slice (some ⟨gb, go, none⟩) m.herds.length hc, .slice sa m.seen.length sc] 27)).alloc (.cells #[.slice la L.length lc, .slice da D.length dc] 98)) := ((Below.refl _ _).alloc (Nat.le_refl _) _).alloc (by first | omega | (simp; done) | (simp; omega)) _
      go_enter Try.func96, Try.ntmps96
      go_wp2_with (first
        | (go_at_call 52; refine (HI.out _ hB2).mono ?_; rintro e w2 ⟨rfl, hb2⟩; obtain ⟨c2, f2, z2⟩ := after (n := W.heap.size + 1 + 1) hb2 (by simp)))
      go_ret
      exact ⟨ret_int (by rw [HO.out]; simp [hk0]; try omega), hB2.trans (hb2.mono (by simp; omega))⟩
    · skip
      have hB2 : Below W.heap.size W ((W.alloc (.cells #[.slice (some ⟨qb, qo, none⟩) m.places.length pc, .slice la' m.legs.length lc', .slice (some ⟨gb, go, none⟩) m.herds.length hc, .slice sa m.seen.length sc] 27)).alloc (.cells #[.slice la L.length lc, .slice da D.length dc] 98)) := ((Below.refl _ _).alloc (Nat.le_refl _) _).alloc (by first | omega | (simp; done) | (simp; omega)) _
      go_enter Try.func96, Try.ntmps96
      go_wp2_with (first
        | (go_at_call 52; refine (HI.out _ hB2).mono ?_; rintro e w2 ⟨rfl, hb2⟩; obtain ⟨c2, f2, z2⟩ := after (n := W.heap.size + 1 + 1) hb2 (by simp)))
      go_ret
      exact ⟨ret_int (by rw [HO.out]; simp [hk0]; try omega), hB2.trans (hb2.mono (by simp; omega))⟩
  · have hps : ¬ (s : Int) < (p : Int) := by omega
    cases wt
    · skip
      have hB2 : Below W.heap.size W ((W.alloc (.cells #[.slice (some ⟨qb, qo, none⟩) m.places.length pc, .slice la' m.legs.length lc', .slice (some ⟨gb, go, none⟩) m.herds.length hc, .slice sa m.seen.length sc] 27)).alloc (.cells #[.slice la L.length lc, .slice da D.length dc] 98)) := ((Below.refl _ _).alloc (Nat.le_refl _) _).alloc (by first | omega | (simp; done) | (simp; omega)) _
      go_enter Try.func96, Try.ntmps96
      go_wp2_with (first
        | (go_at_call 52; refine (HI.out _ hB2).mono ?_; rintro e w2 ⟨rfl, hb2⟩; obtain ⟨c2, f2, z2⟩ := after (n := W.heap.size + 1 + 1) hb2 (by simp)))
      go_ret
      exact ⟨ret_int (by rw [HO.out]; simp [hk0]; try omega), hB2.trans (hb2.mono (by simp; omega))⟩
    · skip
      have hB2 : Below W.heap.size W ((W.alloc (.cells #[.slice (some ⟨qb, qo, none⟩) m.places.length pc, .slice la' m.legs.length lc', .slice (some ⟨gb, go, none⟩) m.herds.length hc, .slice sa m.seen.length sc] 27)).alloc (.cells #[.slice la L.length lc, .slice da D.length dc] 98)) := ((Below.refl _ _).alloc (Nat.le_refl _) _).alloc (by first | omega | (simp; done) | (simp; omega)) _
      go_enter Try.func96, Try.ntmps96
      go_wp2_with (first
        | (go_at_call 52; refine (HI.out _ hB2).mono ?_; rintro e w2 ⟨rfl, hb2⟩; obtain ⟨c2, f2, z2⟩ := after (n := W.heap.size + 1 + 1) hb2 (by simp)))
      go_ret
      exact ⟨ret_int (by rw [HO.out]; simp [hk0]; try omega), hB2.trans (hb2.mono (by simp; omega))⟩
set_option maxHeartbeats 4000000 in
set_option maxRecDepth 100000 in
theorem ins_succ (hv : validM m = true) (ht : TrOk m L D) (hm : MbAt w m A) (hL : IntsM w la L) (hh : h < m.herds.length) (hs : (m.herds[h]).1 = (s : Int)) {k : Nat} (hk : s + k + 1 < m.places.length) (ho : OnsK m A L D la lc da dc h s k w) : InsK m A L D la lc da dc h s (k + 1) w := by
  intro W hb
  have hl := validM_len hv
  have hh4 : (h : Int) < (m.herds.length : Int) := by omega
  have hl4 : (m.herds.length : Int) ≤ 4 := by omega
  have hll : L.length = m.legs.length := ht.legs
  have hkl : s + k < L.length := by omega
  have hki : ((s + k : Nat) : Int) < (L.length : Int) := by omega
  have hL6 : (L.length : Int) ≤ 6 := by omega
  have hdy := day_in hv ht h
  have hb1 := inK_in hv ht s hdy.1 hdy.2 k
  have hb2 := stay_in hv s k
  have hb3 := leg_in hv ht (s + k)
  have hbo : 0 ≤ onK m L s (D.getD h 0) k ∧ onK m L s (D.getD h 0) k ≤ 100 := by unfold onK; omega
  have HO : Hid (∀ W' xi, xi = ((s + k : Nat) : Int) → Below W.heap.size W W' → Calls Try.prog 96 #[mv m A, tv L D la lc da dc, .int .i64 h, .int .i64 xi] W' (Gives (.int .i64 (onK m L s (D.getD h 0) k)) W')) := fun W' xi hx hb' => by subst hx; exact ho W' (hb.trans (hb'.mono hb.size))
  obtain ⟨gb, go, e0, e1, -⟩ := (hm.below hb).herds.get4 hh
  obtain ⟨lb, ll, d0, d1⟩ := (hL.below hb).get1 hkl
  have hgb := World.block_lt_of_cell? W _ e1
  have hlb := World.block_lt_of_cell? W _ d1
  simp only at hgb hlb
  have HR : Hid (inK m L s (D.getD h 0) (k + 1) = onK m L s (D.getD h 0) k + L[s + k]) := by
    show _ = _
    rw [inK, List.getD_eq_getElem?_getD (l := L), List.getElem?_eq_getElem hkl]; rfl
  rw [List.getD_eq_getElem?_getD, List.getElem?_eq_getElem hkl, Option.getD_some] at hb3
  rw [hs] at e1
  have hne : (((s + (k + 1) : Nat) : Int) == (s : Int)) = false := by simp; omega
  have hp1 : ((s + (k + 1) : Nat) : Int) = ((s + k : Nat) : Int) + 1 := by omega
  have hp6 : ((s + (k + 1) : Nat) : Int) ≤ 6 := by omega
  rcases A with ⟨pa, pc, la', lc', ha, hc, sa, sc⟩
  simp only at e0
  subst e0 d0
  clear hm hb ht hv hs ho hL hb1 hb2 hdy hll
  generalize onK m L s (D.getD h 0) k = n at *
  generalize inK m L s (D.getD h 0) (k + 1) = R at *
  generalize L[s + k] = x at *
  generalize hq : s + k = q at *
  generalize hpp : s + (k + 1) = p at *
  unfold mv mcells tv at *
  simp only at *
  obtain ⟨W1, hW1⟩ : ∃ W1, W1 = ((W.alloc (.cells #[.slice pa m.places.length pc, .slice la' m.legs.length lc', .slice (some ⟨gb, go, none⟩) m.herds.length hc, .slice sa m.seen.length sc] 27)).alloc (.cells #[.slice (some ⟨lb, ll, none⟩) L.length lc, .slice da D.length dc] 98)) := ⟨_, rfl⟩
  have hB1 : Below W.heap.size W W1 := by rw [hW1]; exact ((Below.refl _ _).alloc (Nat.le_refl _) _).alloc (by first | omega | (simp; done) | (simp; omega)) _
  have bm : Blk W1 W.heap.size #[.slice pa m.places.length pc, .slice la' m.legs.length lc', .slice (some ⟨gb, go, none⟩) m.herds.length hc, .slice sa m.seen.length sc] 27 := by rw [hW1]; exact (Blk.new _ _ _).alloc _
  have bt : Blk W1 (W.heap.size + 1) #[.slice (some ⟨lb, ll, none⟩) L.length lc, .slice da D.length dc] 98 := by rw [hW1]; exact Blk.new' _ _ _ _ (by simp)
  have f1 := (hB1.cell (p := ⟨lb, ll + q, none⟩) hlb).trans d1
  have g1 := (hB1.cell (p := ⟨gb, go + h * 4, none⟩) hgb).trans e1
  have hz : W1.heap.size = W.heap.size + 1 + 1 := by rw [hW1]; simp
  go_enter Try.func52, Try.ntmps52
  go_upto_region 1 with fail
  rw [← hW1]
  clear hW1 e1 d1
  have rm := bm.cell
  have rt := bt.cell
  generalize hz0 : W.heap.size = z0 at *
  have HZ0 := Lib.hid hz0
  clear hz0
  go_wp2_with fail
  refine Ord.wp_region [(0, 0), (1, 0), (2, 0), (3, 0), (4, 0), (6, 1), (7, 1), (8, 1), (9, 1), (10, 1), (11, 1), (5, 2), (12, 0), (13, 0)] (fun W' => Below (z0 + 1 + 1) W1 W') (by kernel_rfl) (by kernel_rfl) (fun c a d v w h => by cases d <;> exact h) (Below.refl _ _).drew ?_
  have hpi : (p : Int) - 1 = (q : Int) := by omega
  have hwq : IntKind.i64.wrap (q : Int) = (q : Int) := Lib.wrap_i64_small _ (by omega)
  have hq0 : ¬ (q : Int) < 0 := by omega
  go_wp2_with (first
    | (go_at_call 96; refine (HO.out _ _ (by first | rfl | omega) (hB1.trans (by (repeat (first | assumption | exact Below.refl _ _ | refine Below.drew ?_ | refine Below.alloc ?_ (by first | omega | (simp; done) | (simp; omega)) _ | refine Below.setCell ?_ (by first | omega | (simp; done) | (simp; omega)) _ | refine Below.trans ?_ (Below.mono (by assumption) (by first | omega | (simp; done) | (simp; omega)))))))).mono ?_; rintro e w2 ⟨rfl, hb2⟩; refine at_stop ?_)
    | ((with_reducible refine Ord.at_wild ?_); refine Ord.wild_load (ad := ⟨z0 + 1, 0, none⟩) (.slice (some ⟨lb, ll, none⟩) L.length lc) rfl rfl ?_ ?_; (focus (intro W hW; obtain ⟨cW, _, zW⟩ := below_rules hW rfl; simp [go_sem, cW, ↓IntWalk.iteOmega, rt]; done)); intro K hK)
    | ((with_reducible refine Ord.at_wild ?_); refine Ord.wild_load (ad := ⟨lb, ll + q, none⟩) (.int .i64 x) rfl rfl ?_ ?_; (focus (intro W hW; obtain ⟨cW, _, zW⟩ := below_rules hW rfl; simp [go_sem, cW, ↓IntWalk.iteOmega, f1]; done)); intro K hK)
    | ((with_reducible refine Ord.at_wild ?_); refine Ord.wild_binOp (.int .i64 (q : Int)) rfl (fun W => by simp [go_sem, hpi, hwq]; done) (fun K hK => ?_))
    | ((with_reducible refine Ord.at_wild ?_); refine Ord.wild_move (v := .int .i64 (p : Int)) rfl rfl (fun K hK => ?_))
    | ((with_reducible refine Ord.at_wild ?_); refine Ord.wild_idx (.pointer (some ⟨lb, ll + q, none⟩)) rfl ?_ ?_; (focus (intro W hW; simp [go_sem, hki, hq0]; done)); intro K hK)
    | ((with_reducible refine Ord.at_calm ?_); refine Ord.calm_skip rfl ?_ (fun K hK => ?_); (focus (simp [Region.wanted, yielded]; done))) | with_reducible refine Ord.walk_calm rfl rfl (fun K hK => ?_) | ((with_reducible refine Ord.at_wild ?_); refine Ord.wild_fieldAddr rfl rfl (fun W => by simp [go_sem]; rfl) (fun K hK => ?_)) | ((with_reducible refine Ord.at_wild ?_); refine Ord.wild_move rfl rfl (fun K hK => ?_)) | ((with_reducible refine Ord.at_wild ?_); refine Ord.wild_nilCheck rfl rfl (fun K hK => ?_)) | with_reducible refine Ord.walk_eff rfl (by first | (simp; done) | assumption | (go_simp; done) | (repeat (first | assumption | exact Below.refl _ _ | refine Below.drew ?_ | refine Below.alloc ?_ (by first | omega | (simp; done) | (simp; omega)) _ | refine Below.setCell ?_ (by first | omega | (simp; done) | (simp; omega)) _ | refine Below.trans ?_ (Below.mono (by assumption) (by first | omega | (simp; done) | (simp; omega)))))) (fun K hK => ?_) | with_reducible refine Ord.at_fork ?_ ?_ | with_reducible refine Ord.walk_nil ?_ | (with_reducible refine Ord.next_of (by first | (simp; done) | (go_simp; done) | (repeat (first | assumption | exact Below.refl _ _ | refine Below.drew ?_ | refine Below.alloc ?_ (by first | omega | (simp; done) | (simp; omega)) _ | refine Below.setCell ?_ (by first | omega | (simp; done) | (simp; omega)) _ | refine Below.trans ?_ (Below.mono (by assumption) (by first | omega | (simp; done) | (simp; omega)))))) (fun _ => ?_)))
  unfold Stop
  have hB2 : Below (z0 + 1 + 1) W1 w2 := (Below.refl _ _).drew.trans (hb2.mono (by simp [hz]))
  go_wp2_with (first
    | ((with_reducible refine Ord.at_calm ?_); refine Ord.calm_skip rfl ?_ (fun K hK => ?_); (focus (simp [Region.wanted, yielded]; done))) | with_reducible refine Ord.walk_calm rfl rfl (fun K hK => ?_) | ((with_reducible refine Ord.at_wild ?_); refine Ord.wild_fieldAddr rfl rfl (fun W => by simp [go_sem]; rfl) (fun K hK => ?_)) | ((with_reducible refine Ord.at_wild ?_); refine Ord.wild_move rfl rfl (fun K hK => ?_)) | ((with_reducible refine Ord.at_wild ?_); refine Ord.wild_nilCheck rfl rfl (fun K hK => ?_)) | with_reducible refine Ord.walk_eff rfl (by first | (simp; done) | assumption | (go_simp; done) | (repeat (first | assumption | exact Below.refl _ _ | refine Below.drew ?_ | refine Below.alloc ?_ (by first | omega | (simp; done) | (simp; omega)) _ | refine Below.setCell ?_ (by first | omega | (simp; done) | (simp; omega)) _ | refine Below.trans ?_ (Below.mono (by assumption) (by first | omega | (simp; done) | (simp; omega)))))) (fun K hK => ?_) | with_reducible refine Ord.at_fork ?_ ?_ | with_reducible refine Ord.walk_nil ?_ | (with_reducible refine Ord.next_of (by first | (simp; done) | (go_simp; done) | (repeat (first | assumption | exact Below.refl _ _ | refine Below.drew ?_ | refine Below.alloc ?_ (by first | omega | (simp; done) | (simp; omega)) _ | refine Below.setCell ?_ (by first | omega | (simp; done) | (simp; omega)) _ | refine Below.trans ?_ (Below.mono (by assumption) (by first | omega | (simp; done) | (simp; omega)))))) (fun _ => ?_)))
  go_ret
  exact ⟨ret_int (by rw [HR.out]), by rw [HZ0.out]; exact hB1.trans (hB2.mono (by omega))⟩
/-- On which day a mob comes, and goes on: all places. -/
theorem in_all (hv : validM m = true) (ht : TrOk m L D) (hm : MbAt w m A) (hL : IntsM w la L) (hD : IntsM w da D) (hh : h < m.herds.length) (hs : (m.herds[h]).1 = (s : Int)) : ∀ k, s + k < m.places.length → InsK m A L D la lc da dc h s k w
  | 0, _ => ins_zero hv ht hm hD hh hs
  | k + 1, hk => ins_succ hv ht hm hL hh hs hk (ons_of hv ht hm hh hs (by omega) (in_all hv ht hm hL hD hh hs k (by omega)))
end
end Go.Proofs.Yteeinehpneppnaa
/- shearworksref01: In of all places, right. -/
set_option linter.unusedVariables false
set_option linter.unusedSimpArgs false
namespace Go.Proofs.Yteeinehpneppnaa
open Go.RowKit Go.Proofs
attribute [local irreducible] Ord.walk
def startN (m : Mb) (h : Nat) : Nat := (startI m h).toNat
/-- On which day a mob comes to a place. -/
def dayAt (m : Mb) (L D : List Int) (h p : Nat) : Int := inK m L (startN m h) (D.getD h 0) (p - startN m h)
theorem startN_eq {m : Mb} (hv : validM m = true) {h : Nat} (hh : h < m.herds.length) : (m.herds[h]).1 = (startN m h : Int) ∧ startN m h + 2 ≤ m.places.length := by
  have h1 := validM_herd hv hh
  rw [List.getD_eq_getElem?_getD, List.getElem?_eq_getElem hh, Option.getD_some] at h1
  have h2 : startI m h = (m.herds[h]).1 := by unfold startI; simp [hh]
  unfold startN
  rw [h2]
  omega
theorem dayAt_in {m : Mb} (hv : validM m = true) {L D : List Int} (ht : TrOk m L D) (h p : Nat) (hp : p < m.places.length) : 0 ≤ dayAt m L D h p ∧ dayAt m L D h p ≤ 100 := by
  have hd := day_in hv ht h
  have h1 := inK_in hv ht (startN m h) hd.1 hd.2 (p - startN m h)
  have := validM_len hv
  unfold dayAt
  omega
theorem r_In {m : Mb} {A : Ma} {L D : List Int} {la : Option Addr} {lc : Nat} {da : Option Addr} {dc : Nat} {h p : Nat} {w : World} (hv : validM m = true) (ht : TrOk m L D) (hm : MbAt w m A) (hL : IntsM w la L) (hD : IntsM w da D) (hh : h < m.herds.length) (h1 : startN m h ≤ p) (h2 : p < m.places.length) :
    ∀ W, Below w.heap.size w W → Calls Try.prog 52 #[mv m A, tv L D la lc da dc, .int .i64 h, .int .i64 p] W (Gives (.int .i64 (dayAt m L D h p)) W) := by
  intro W hb
  have := in_all (lc := lc) (dc := dc) hv ht hm hL hD hh (startN_eq hv hh).1 (p - startN m h) (by omega) W hb
  rwa [show startN m h + (p - startN m h) = p by omega] at this
/-- Is this right that was seen? -/
def seenB (m : Mb) (L D : List Int) (s : Int × Int × Int × Int) : Bool := inB (dayAt m L D s.1.toNat s.2.1.toNat) s.2.2.1 s.2.2.2
def rightTo (m : Mb) (L D : List Int) (set : Nat) (k : Nat) : Bool := (List.range k).all fun i => !hasB set i || seenB m L D (m.seen.getD i (0, 0, 0, 0))
def rightM (m : Mb) (L D : List Int) (set : Nat) : Bool := rightTo m L D set m.seen.length
theorem rightTo_succ (m : Mb) (L D : List Int) (set k : Nat) : rightTo m L D set (k + 1) = (rightTo m L D set k && (!hasB set k || seenB m L D (m.seen.getD k (0, 0, 0, 0)))) := by
  unfold rightTo; rw [List.range_succ, List.all_append]; simp
theorem rightTo_no {m : Mb} {L D : List Int} {set k n : Nat} (hk : k < n) (h : (!hasB set k || seenB m L D (m.seen.getD k (0, 0, 0, 0))) = false) : rightTo m L D set n = false := by
  unfold rightTo
  rw [List.all_eq_false]
  exact ⟨k, List.mem_range.2 hk, by rw [h]; simp⟩
theorem validM_seen {m : Mb} (h : validM m = true) {i : Nat} (hi : i < m.seen.length) : 0 ≤ (m.seen[i]).1 ∧ (m.seen[i]).1 < m.herds.length ∧ 0 ≤ (m.seen[i]).2.1 ∧ (m.seen[i]).2.1 < m.places.length ∧ startI m (m.seen[i]).1 ≤ (m.seen[i]).2.1 ∧ 0 ≤ (m.seen[i]).2.2.1 ∧ (m.seen[i]).2.2.1 ≤ (m.seen[i]).2.2.2 ∧ (m.seen[i]).2.2.2 ≤ 100 := by
  unfold validM at h
  simp only [Bool.and_eq_true] at h
  have h1 := List.all_eq_true.1 h.2.2.2.2 _ (List.getElem_mem hi)
  simp only [snOk, fromB, Bool.and_eq_true, decide_eq_true_eq] at h1
  have h2 := inB_of h1.1.1
  have h3 := inB_of h1.1.2.1
  have h4 := h1.2
  simp only [spanM, decide_eq_true_eq] at h4
  have h5 := h1.1.2.2
  omega
set_option maxHeartbeats 40000000 in
set_option maxRecDepth 100000 in
theorem r_right {m : Mb} {A : Ma} {L D : List Int} {la : Option Addr} {lc : Nat} {da : Option Addr} {dc : Nat} (set : Nat) {w : World} (hv : validM m = true) (ht : TrOk m L D) (hm : MbAt w m A) (hL : IntsM w la L) (hD : IntsM w da D) (hset : set < 2 ^ 62) :
    Calls Try.prog 102 #[mv m A, tv L D la lc da dc, .int .i64 set] w (Gives (.bool (rightM m L D set)) w) := by
  have HIn := Lib.hid (fun h p (hh : h < m.herds.length) (h1 : startN m h ≤ p) (h2 : p < m.places.length) => r_In (lc := lc) (dc := dc) hv ht hm hL hD hh h1 h2)
  have HH := Lib.hid (fun (i : Nat) (hi : i ≤ 62) W => r_has0 set i hset hi W)
  have HI := Lib.hid (fun a b c W => r_in a b c W)
  have HSn := Lib.hid (fun (i : Nat) (hi : i < m.seen.length) => validM_seen hv hi)
  have HSt := Lib.hid (fun (h : Nat) (hh : h < m.herds.length) => startN_eq hv hh)
  have HSi : Hid (∀ h : Nat, startN m h = (startI m h).toNat) := fun _ => rfl
  have hl := validM_len hv
  have hse := hm.seen
  have HR : Hid (rightM m L D set = rightTo m L D set m.seen.length) := rfl
  have hs5 : (m.seen.length : Int) ≤ 5 := by omega
  generalize rightM m L D set = R at *
  clear hv ht hm hL hD hset
  rcases A with ⟨pa, pc, la', lc', ha, hc, sa, sc⟩
  unfold mv mcells tv at *
  simp only at *
  go_enter Try.func102, Try.ntmps102
  go_wp2_with fail
  obtain ⟨W1, hW1⟩ : ∃ W1, W1 = ((w.alloc (.cells #[.slice pa m.places.length pc, .slice la' m.legs.length lc', .slice ha m.herds.length hc, .slice sa m.seen.length sc] 27)).alloc (.cells #[.slice la L.length lc, .slice da D.length dc] 98)) := ⟨_, rfl⟩
  have hB1 : Below w.heap.size w W1 := by rw [hW1]; exact ((Below.refl _ _).alloc (Nat.le_refl _) _).alloc (by first | omega | (simp; done) | (simp; omega)) _
  have bm : Blk W1 w.heap.size #[.slice pa m.places.length pc, .slice la' m.legs.length lc', .slice ha m.herds.length hc, .slice sa m.seen.length sc] 27 := by rw [hW1]; exact (Blk.new _ _ _).alloc _
  have bt : Blk W1 (w.heap.size + 1) #[.slice la L.length lc, .slice da D.length dc] 98 := by rw [hW1]; exact Blk.new' _ _ _ _ (by simp)
  have hz : W1.heap.size = w.heap.size + 1 + 1 := by rw [hW1]; simp
  rw [← hW1]
  clear hW1
  generalize hz0 : w.heap.size = z0 at *
  have HZ0 := Lib.hid hz0
  clear hz0
  go_loopw [7] (fun i wr => ∃ k : Nat, k ≤ m.seen.length ∧ i = .int .i64 k ∧ Hid (rightTo m L D set k = true) ∧ Below W1.heap.size W1 wr) (fun i _ => m.seen.length - (intOf i).toNat)
  case atStart => exact ⟨0, Nat.zero_le _, rfl, rfl, Below.refl _ _⟩
  case round =>
    obtain ⟨k, hk, rfl, hall, hBr⟩ := hrel
    have bmr := bm.below hBr bm.lt
    have btr := bt.below hBr bt.lt
    have hBw := hB1.trans (hBr.mono (by omega))
    have rm := bmr.cell
    have hsr := hBr.size
    by_cases hlt : k < m.seen.length
    · obtain ⟨gb, go, rfl, e1, e2, e3, e4⟩ := hse.get4 hlt
      have hgb : gb < z0 := by have h := World.block_lt_of_cell? w _ e1; rw [HZ0.out] at h; exact h
      have i1 := (hBw.cell (p := ⟨gb, go + k * 4, none⟩) hgb).trans e1
      have i2 := (hBw.cell (p := ⟨gb, go + k * 4 + 1, none⟩) hgb).trans e2
      have i3 := (hBw.cell (p := ⟨gb, go + k * 4 + 2, none⟩) hgb).trans e3
      have i4 := (hBw.cell (p := ⟨gb, go + k * 4 + 3, none⟩) hgb).trans e4
      have hlti : (k : Int) < m.seen.length := by omega
      have hsn := HSn.out k hlt
      have HT := Lib.hid (rightTo_succ m L D set k)
      have HN := Lib.hid (fun h => rightTo_no (m := m) (L := L) (D := D) (set := set) hlt h)
      have hge : m.seen.getD k (0, 0, 0, 0) = m.seen[k] := by rw [List.getD_eq_getElem?_getD, List.getElem?_eq_getElem hlt]; rfl
      rw [hge] at HT HN
      generalize m.seen[k] = x at *
      obtain ⟨x1, x2, x3, x4⟩ := x
      simp only at *
      obtain ⟨h, rfl⟩ : ∃ h : Nat, x1 = (h : Int) := ⟨x1.toNat, by omega⟩
      obtain ⟨p, rfl⟩ : ∃ p : Nat, x2 = (p : Int) := ⟨x2.toNat, by omega⟩
      have HHk := Lib.hid (fun W => HH.out k (by omega) W)
      have HInk := Lib.hid (HIn.out h p (by omega) (by rw [HSi.out]; omega) (by omega))
      have HB : Hid (seenB m L D ((h : Int), (p : Int), x3, x4) = inB (dayAt m L D h p) x3 x4) := rfl
      clear e1 e2 e3 e4 hge HIn HSn HSt hsn
      generalize dayAt m L D h p = dy at *
      generalize seenB m L D ((h : Int), (p : Int), x3, x4) = sb at *
      go_wp2_with fail
      obtain ⟨W2, hW2⟩ : ∃ W2, W2 = wr.alloc (.cells #[.int .i64 (h : Int), .int .i64 (p : Int), .int .i64 x3, .int .i64 x4] 64) := ⟨_, rfl⟩
      have hB2 : Below wr.heap.size wr W2 := by rw [hW2]; exact (Below.refl _ _).alloc (Nat.le_refl _) _
      have b8 : Blk W2 wr.heap.size #[.int .i64 (h : Int), .int .i64 (p : Int), .int .i64 x3, .int .i64 x4] 64 := by rw [hW2]; exact Blk.new _ _ _
      have bm2 := bmr.below hB2 bmr.lt
      have bt2 := btr.below hB2 btr.lt
      have hz2 : W2.heap.size = wr.heap.size + 1 := by rw [hW2]; simp
      have hBx := hBw.trans (hB2.mono (by omega))
      rw [← hW2]
      clear hW2 i1 i2 i3 i4 rm
      have r8 := b8.cell
      have rm2 := bm2.cell
      have rt2 := bt2.cell
      refine Ord.wp_region [(0, 0), (1, 0), (2, 2), (3, 0), (4, 0), (5, 0), (6, 0), (7, 0), (8, 0), (9, 0), (11, 1), (12, 1), (13, 1), (14, 1), (15, 1), (16, 1), (10, 2), (17, 2), (18, 0), (19, 0)] (fun W' => Below (wr.heap.size + 1) W2 W') (by kernel_rfl) (by kernel_rfl) (fun c a d v w h => by cases d <;> exact h) (Below.refl _ _).drew ?_
      cases hb : hasB set k
      · rw [hb] at HHk HT
        go_wp2_with (first
          | (go_at_call 113; refine (HHk.out _).mono ?_; rintro e w' ⟨rfl, rfl⟩)
          | ((with_reducible refine Ord.at_wild ?_); refine Ord.walk_skip rfl rfl (fun K hK => ?_)) | ((with_reducible refine Ord.at_eff ?_); refine Ord.walk_skip rfl rfl (fun K hK => ?_))
          | ((with_reducible refine Ord.at_calm ?_); refine Ord.calm_skip rfl ?_ (fun K hK => ?_); (focus (simp [Region.wanted, yielded]; done))) | with_reducible refine Ord.walk_calm rfl rfl (fun K hK => ?_) | ((with_reducible refine Ord.at_wild ?_); refine Ord.wild_fieldAddr rfl rfl (fun W => by simp [go_sem]; rfl) (fun K hK => ?_)) | ((with_reducible refine Ord.at_wild ?_); refine Ord.wild_move rfl rfl (fun K hK => ?_)) | ((with_reducible refine Ord.at_wild ?_); refine Ord.wild_nilCheck rfl rfl (fun K hK => ?_)) | with_reducible refine Ord.walk_eff rfl (by first | (simp; done) | assumption | (go_simp; done) | (repeat (first | assumption | exact Below.refl _ _ | refine Below.drew ?_ | refine Below.alloc ?_ (by first | omega | (simp; done) | (simp; omega)) _ | refine Below.setCell ?_ (by first | omega | (simp; done) | (simp; omega)) _ | refine Below.trans ?_ (Below.mono (by assumption) (by first | omega | (simp; done) | (simp; omega)))))) (fun K hK => ?_) | with_reducible refine Ord.at_fork ?_ ?_ | with_reducible refine Ord.walk_nil ?_ | (with_reducible refine Ord.next_of (by first | (simp; done) | (go_simp; done) | (repeat (first | assumption | exact Below.refl _ _ | refine Below.drew ?_ | refine Below.alloc ?_ (by first | omega | (simp; done) | (simp; omega)) _ | refine Below.setCell ?_ (by first | omega | (simp; done) | (simp; omega)) _ | refine Below.trans ?_ (Below.mono (by assumption) (by first | omega | (simp; done) | (simp; omega)))))) (fun _ => ?_)))
        exact ⟨⟨k + 1, by omega, by go_num, by show _ = _; rw [HT.out, hall.out]; rfl, (hBr.trans (hB2.mono hsr)).drew⟩, by simp [intOf]; omega⟩
      · rw [hb] at HHk HT HN
        go_wp2_with (first
            | (go_at_call 113; refine (HHk.out _).mono ?_; rintro e w' ⟨rfl, rfl⟩)
            | (go_at_call 52; refine (HInk.out _ hBx.drew).mono ?_; rintro e w3 ⟨rfl, hb3⟩; refine at_stop ?_)
            | ((with_reducible refine Ord.at_wild ?_); refine Ord.wild_load (ad := ⟨wr.heap.size, 2, none⟩) (.int .i64 x3) rfl rfl ?_ ?_; (focus (intro W hW; obtain ⟨cW, _, zW⟩ := below_rules hW rfl; simp [go_sem, cW, ↓IntWalk.iteOmega, r8]; done)); intro K hK)
            | ((with_reducible refine Ord.at_wild ?_); refine Ord.wild_load (ad := ⟨wr.heap.size, 3, none⟩) (.int .i64 x4) rfl rfl ?_ ?_; (focus (intro W hW; obtain ⟨cW, _, zW⟩ := below_rules hW rfl; simp [go_sem, cW, ↓IntWalk.iteOmega, r8]; done)); intro K hK)
            | ((with_reducible refine Ord.at_calm ?_); refine Ord.calm_skip rfl ?_ (fun K hK => ?_); (focus (simp [Region.wanted, yielded]; done))) | with_reducible refine Ord.walk_calm rfl rfl (fun K hK => ?_) | ((with_reducible refine Ord.at_wild ?_); refine Ord.wild_fieldAddr rfl rfl (fun W => by simp [go_sem]; rfl) (fun K hK => ?_)) | ((with_reducible refine Ord.at_wild ?_); refine Ord.wild_move rfl rfl (fun K hK => ?_)) | ((with_reducible refine Ord.at_wild ?_); refine Ord.wild_nilCheck rfl rfl (fun K hK => ?_)) | with_reducible refine Ord.walk_eff rfl (by first | (simp; done) | assumption | (go_simp; done) | (repeat (first | assumption | exact Below.refl _ _ | refine Below.drew ?_ | refine Below.alloc ?_ (by first | omega | (simp; done) | (simp; omega)) _ | refine Below.setCell ?_ (by first | omega | (simp; done) | (simp; omega)) _ | refine Below.trans ?_ (Below.mono (by assumption) (by first | omega | (simp; done) | (simp; omega)))))) (fun K hK => ?_) | with_reducible refine Ord.at_fork ?_ ?_ | with_reducible refine Ord.walk_nil ?_ | (with_reducible refine Ord.next_of (by first | (simp; done) | (go_simp; done) | (repeat (first | assumption | exact Below.refl _ _ | refine Below.drew ?_ | refine Below.alloc ?_ (by first | omega | (simp; done) | (simp; omega)) _ | refine Below.setCell ?_ (by first | omega | (simp; done) | (simp; omega)) _ | refine Below.trans ?_ (Below.mono (by assumption) (by first | omega | (simp; done) | (simp; omega)))))) (fun _ => ?_)))
        unfold Stop
        have hB3 : Below (wr.heap.size + 1) W2 w3 := (Below.refl _ _).drew.trans (hb3.mono (by simp [hz2]))
        have hBy := hBx.trans (hB3.mono (by have := bmr.lt; omega))
        clear hb3 r8 rm2 rt2
        cases c1 : inB dy x3 x4
        · rw [c1] at HB
          go_wp2_with (first
            | (go_at_call 87; refine (HI.out _ _ _ _).mono ?_; rw [c1]; rintro e w' ⟨rfl, rfl⟩)
            | ((with_reducible refine Ord.at_calm ?_); refine Ord.calm_skip rfl ?_ (fun K hK => ?_); (focus (simp [Region.wanted, yielded]; done))) | with_reducible refine Ord.walk_calm rfl rfl (fun K hK => ?_) | ((with_reducible refine Ord.at_wild ?_); refine Ord.wild_fieldAddr rfl rfl (fun W => by simp [go_sem]; rfl) (fun K hK => ?_)) | ((with_reducible refine Ord.at_wild ?_); refine Ord.wild_move rfl rfl (fun K hK => ?_)) | ((with_reducible refine Ord.at_wild ?_); refine Ord.wild_nilCheck rfl rfl (fun K hK => ?_)) | with_reducible refine Ord.walk_eff rfl (by first | (simp; done) | assumption | (go_simp; done) | (repeat (first | assumption | exact Below.refl _ _ | refine Below.drew ?_ | refine Below.alloc ?_ (by first | omega | (simp; done) | (simp; omega)) _ | refine Below.setCell ?_ (by first | omega | (simp; done) | (simp; omega)) _ | refine Below.trans ?_ (Below.mono (by assumption) (by first | omega | (simp; done) | (simp; omega)))))) (fun K hK => ?_) | with_reducible refine Ord.at_fork ?_ ?_ | with_reducible refine Ord.walk_nil ?_ | (with_reducible refine Ord.next_of (by first | (simp; done) | (go_simp; done) | (repeat (first | assumption | exact Below.refl _ _ | refine Below.drew ?_ | refine Below.alloc ?_ (by first | omega | (simp; done) | (simp; omega)) _ | refine Below.setCell ?_ (by first | omega | (simp; done) | (simp; omega)) _ | refine Below.trans ?_ (Below.mono (by assumption) (by first | omega | (simp; done) | (simp; omega)))))) (fun _ => ?_)))
          go_ret
          refine ⟨ret_bool ?_, by rw [HZ0.out]; exact hBy⟩
          rw [HR.out, HN.out (by rw [HB.out]; rfl)]
        · rw [c1] at HB
          go_wp2_with (first
            | (go_at_call 87; refine (HI.out _ _ _ _).mono ?_; rw [c1]; rintro e w' ⟨rfl, rfl⟩)
            | ((with_reducible refine Ord.at_calm ?_); refine Ord.calm_skip rfl ?_ (fun K hK => ?_); (focus (simp [Region.wanted, yielded]; done))) | with_reducible refine Ord.walk_calm rfl rfl (fun K hK => ?_) | ((with_reducible refine Ord.at_wild ?_); refine Ord.wild_fieldAddr rfl rfl (fun W => by simp [go_sem]; rfl) (fun K hK => ?_)) | ((with_reducible refine Ord.at_wild ?_); refine Ord.wild_move rfl rfl (fun K hK => ?_)) | ((with_reducible refine Ord.at_wild ?_); refine Ord.wild_nilCheck rfl rfl (fun K hK => ?_)) | with_reducible refine Ord.walk_eff rfl (by first | (simp; done) | assumption | (go_simp; done) | (repeat (first | assumption | exact Below.refl _ _ | refine Below.drew ?_ | refine Below.alloc ?_ (by first | omega | (simp; done) | (simp; omega)) _ | refine Below.setCell ?_ (by first | omega | (simp; done) | (simp; omega)) _ | refine Below.trans ?_ (Below.mono (by assumption) (by first | omega | (simp; done) | (simp; omega)))))) (fun K hK => ?_) | with_reducible refine Ord.at_fork ?_ ?_ | with_reducible refine Ord.walk_nil ?_ | (with_reducible refine Ord.next_of (by first | (simp; done) | (go_simp; done) | (repeat (first | assumption | exact Below.refl _ _ | refine Below.drew ?_ | refine Below.alloc ?_ (by first | omega | (simp; done) | (simp; omega)) _ | refine Below.setCell ?_ (by first | omega | (simp; done) | (simp; omega)) _ | refine Below.trans ?_ (Below.mono (by assumption) (by first | omega | (simp; done) | (simp; omega)))))) (fun _ => ?_)))
          exact ⟨⟨k + 1, by omega, by go_num, by show _ = _; rw [HT.out, hall.out, HB.out]; rfl, (hBr.trans (hB2.mono hsr)).trans (hB3.mono (by omega))⟩, by simp [intOf]; omega⟩
    · have hlti : ¬ (k : Int) < (m.seen.length : Int) := by omega
      have e : k = m.seen.length := by omega
      subst e
      have e : R = true := by rw [HR.out]; exact hall.out
      clear HR
      subst e
      go_wp2_with fail
      go_ret
      exact ⟨rfl, by rw [HZ0.out]; exact hBw⟩
end Go.Proofs.Yteeinehpneppnaa
