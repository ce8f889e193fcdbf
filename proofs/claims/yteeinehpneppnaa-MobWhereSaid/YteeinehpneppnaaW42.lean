/- Parts of a proof: MvA, MvP. -/
import Derived.Test.YteeinehpneppnaaW37
/- The law's draws: a number of a span, by remainders. -/
set_option linter.unusedVariables false
set_option linter.unusedSimpArgs false
namespace Go.Proofs.Yteeinehpneppnaa
open Go.RowKit Go.Proofs
attribute [local irreducible] Ord.walk
def insideV (n lo hi : Int) : Bool := decide (lo ≤ n ∧ n ≤ hi)
theorem l_insideV (n lo hi : Int) (w : World) : Calls Try.prog 32 #[.int .i64 n, .agg #[.int .i64 lo, .int .i64 hi]] w (Gives (.bool (insideV n lo hi)) w) := by
  go_enter Try.func32, Try.ntmps32
  go_wp2
  all_goals go_ret
  all_goals (refine ⟨ret_bool ?_, (Below.refl _ _).alloc (Nat.le_refl _) _⟩; simp [insideV, *]; try omega)
def u16c (n : Int) : List Value := [.int .u16 n]
/-- A drawer's cells. -/
structure DrAt (w : World) (n : Nat) (bl : List Int) (a : Option Addr) (c : Nat) (k : Nat) : Prop where
  row : Blk w n #[.slice a bl.length c] 48
  num : Blk w (n + 1) #[.int .i64 (k : Int)] 3
  nums : ∃ w0, RowsAt w0 a 1 u16c bl ∧ Below n w0 w ∧ w0.heap.size ≤ n
def drF (n : Nat) : Value := .func (.func 90) #[] #[.pointer (some ⟨n + 1, 0, none⟩), .pointer (some ⟨n, 0, none⟩)]
set_option maxHeartbeats 4000000 in
set_option maxRecDepth 100000 in
theorem l_draws (bl : List Int) (a : Option Addr) (c : Nat) (w : World) (hr : RowsAt w a 1 u16c bl) : Calls Try.prog 30 #[.slice a bl.length c] w (fun e w' => e = .returned (drF w.heap.size) ∧ DrAt w' w.heap.size bl a c 0 ∧ Below w.heap.size w w') := by
  go_enter Try.func30, Try.ntmps30
  go_wp2_with fail
  go_ret
  have hB : Below w.heap.size w ((w.alloc (.cells #[.slice a bl.length c] 48)).alloc (.cells #[.int .i64 0] 3)) := by (repeat (first | assumption | exact Below.refl _ _ | refine Below.drew ?_ | refine Below.alloc ?_ (by first | omega | (simp; done) | (simp; omega)) _ | refine Below.setCell ?_ (by first | omega | (simp; done) | (simp; omega)) _ | refine Below.trans ?_ (Below.mono (by assumption) (by first | omega | (simp; done) | (simp; omega)))))
  exact ⟨rfl, ⟨(Blk.new _ _ _).alloc _, Blk.new' _ _ _ _ (by simp), w, hr, hB, Nat.le_refl _⟩, hB⟩
theorem DrAt.below {w w' : World} {n : Nat} {bl : List Int} {a : Option Addr} {c k : Nat} (h : DrAt w n bl a c k) (hb : Below (n + 2) w w') : DrAt w' n bl a c k := by
  obtain ⟨w0, h1, h2, h3⟩ := h.nums
  exact ⟨(hb.block _ (by omega)).trans h.row, (hb.block _ (by omega)).trans h.num, w0, h1, h2.trans (hb.mono (by omega)), h3⟩
theorem DrAt.lt {w : World} {n : Nat} {bl : List Int} {a : Option Addr} {c k : Nat} (h : DrAt w n bl a c k) : n + 1 < w.heap.size := h.num.lt
theorem ownsRow_off {w w' : World} {base : Nat} {e : TypeId} {size : Nat} {v : Value} {n : Nat} {xs : List Value} {T : List Nat} (h : w.ownsRow base e size v n xs) (ho : Off T w.heap.size w w') (hT : ∀ k ∈ T, k < base) : w'.ownsRow base e size v n xs := by
  obtain ⟨h1, h2⟩ := h
  refine ⟨h1, h2.imp id ?_⟩
  rintro ⟨g, cap, cur, rfl, hg, hh, r⟩
  exact ⟨g, cap, cur, rfl, hg, (ho.block g (Array.getElem?_eq_some_iff.1 hh).1 (fun hk => by have := hT g hk; omega)).trans hh, r⟩
theorem get_u16 {w : World} {a : Option Addr} {l : List Int} (h : RowsAt w a 1 u16c l) {i : Nat} (hi : i < l.length) : ∃ g o, a = some ⟨g, o, none⟩ ∧ w.cell? ⟨g, o + i, none⟩ = some (.int .u16 l[i]) := by
  obtain ⟨g, o, e, hc⟩ := h i hi
  refine ⟨g, o, e, ?_⟩
  have := hc 0 (.int .u16 l[i]) (by simp [u16c])
  simpa using this
set_option maxHeartbeats 4000000 in
set_option maxRecDepth 100000 in
theorem l_draw {bl : List Int} {a : Option Addr} {c k n : Nat} (lo hi : Int) (w : World) (hd : DrAt w n bl a c k) (hl : bl.length ≤ maxLen) (hx : ∀ x ∈ bl, 0 ≤ x ∧ x < 65536) (hk : k ≤ 1000) (h1 : 0 ≤ lo) (h2 : lo ≤ hi) (h3 : hi ≤ 1000) :
    Calls Try.prog 90 #[.agg #[.int .i64 lo, .int .i64 hi], .pointer (some ⟨n + 1, 0, none⟩), .pointer (some ⟨n, 0, none⟩)] w (fun e w' => ∃ v, e = .returned (.int .i64 v) ∧ lo ≤ v ∧ v ≤ hi ∧ DrAt w' n bl a c (k + 1) ∧ Off [n + 1] w.heap.size w w') := by
  have hln := hd.lt
  obtain ⟨b1, b2, w0, hr, hB0, hn0⟩ := hd
  have r1 := b1.cell
  have r2 := b2.cell
  have f2 := b2.free
  have hrw := hr.below (hB0.mono hn0)
  go_enter Try.func90, Try.ntmps90
  go_upto_region 2 with fail
  obtain ⟨W, hW⟩ : ∃ W, ((w.setCell ⟨n + 1, 0, none⟩ (.int .i64 ((k : Int) + 1))).alloc (.cells #[.int .i64 lo, .int .i64 hi] 39)) = W := ⟨_, rfl⟩
  have hoff : Off [n + 1] w.heap.size w W := by rw [← hW]; exact ((Off.refl _ _ _).setCell (.inl (by simp)) _).alloc (by simp) _
  have b1W : Blk W n #[.slice a bl.length c] 48 := hoff.blk b1 (by omega) (by simp)
  have b2W : Blk W (n + 1) #[.int .i64 ((k : Int) + 1)] 3 := by rw [← hW]; exact (b2.set 0 _).alloc _
  have b3W : Blk W w.heap.size #[.int .i64 lo, .int .i64 hi] 39 := by rw [← hW]; exact Blk.new' _ _ _ _ (by simp)
  have hrW : RowsAt W a 1 u16c bl := hr.below ((hB0.mono hn0).trans (hoff.below (by omega) (by simp; omega)))
  have hdr : DrAt W n bl a c (k + 1) := ⟨b1W, by rw [show ((k + 1 : Nat) : Int) = (k : Int) + 1 by omega]; exact b2W, w0, hr, hB0.trans (hoff.below (by omega) (by simp)), hn0⟩
  have hWs := hoff.size
  rw [hW]
  clear hW r1 r2 f2 b1 b2 hr hrw hB0
  have r1 := b1W.cell
  have r2 := b2W.cell
  have r3 := b3W.cell
  have l3 := b3W.lt
  by_cases h0 : bl.length = 0
  · have hz : ((bl.length : Int) == 0) = true := by rw [h0]; rfl
    clear h0
    go_wp2_with fail
    go_ret
    exact ⟨lo, rfl, by omega, by omega, hdr, hoff⟩
  · have hz : ((bl.length : Int) == 0) = false := by rw [beq_eq_false_iff_ne]; omega
    have hz2 : ¬ (bl.length : Int) = 0 := by omega
    obtain ⟨j, hj, ej⟩ : ∃ j : Nat, j < bl.length ∧ ((k : Int) + 1).tmod (bl.length : Int) = (j : Int) := ⟨(k + 1) % bl.length, Nat.mod_lt _ (by omega), by rw [Int.tmod_eq_emod_of_nonneg (by omega)]; rfl⟩
    have hji : (j : Int) < (bl.length : Int) := Int.ofNat_lt.2 hj
    have hl40 : (bl.length : Int) ≤ 9223372036854775807 := by unfold maxLen at hl; omega
    clear hl
    obtain ⟨g, o, rfl, ec⟩ := get_u16 hrW hj
    have hxj := hx _ (List.getElem_mem hj)
    generalize bl[j] = x at *
    obtain ⟨q, hq0, hq1, hq⟩ : ∃ q, 0 ≤ q ∧ q ≤ hi - lo ∧ (x + 71 * ((k : Int) + 1)).tmod (hi - lo + 1) = q := ⟨_, Int.tmod_nonneg _ (by omega), by have := Int.tmod_lt_of_pos (x + 71 * ((k : Int) + 1)) (show 0 < hi - lo + 1 by omega); omega, rfl⟩
    have hd0 : ¬ hi - lo + 1 = 0 := by omega
    clear hx hrW
    go_wp2_with fail
    refine Ord.wp_regionN [(0, 0), (1, 0), (2, 0), (3, 0), (4, 0), (5, 0), (6, 0), (7, 0), (8, 0), (9, 0), (10, 0), (11, 0), (12, 0), (13, 0), (14, 0), (15, 0), (16, 0), (17, 0), (18, 0), (19, 0), (20, 0), (21, 0)] (fun _ => True) (by kernel_rfl) (by kernel_rfl) trivial ?_
    go_wp2_with (first | (with_reducible refine Ord.at_nm ?_) | ((with_reducible refine Ord.at_calm ?_); refine Ord.calm_skip rfl ?_ (fun K hK => ?_); (focus (simp [Region.wanted, yielded]; done))) | with_reducible refine Ord.walk_calm rfl rfl (fun K hK => ?_) | ((with_reducible refine Ord.at_wild ?_); refine Ord.wild_fieldAddr rfl rfl (fun W => by simp [go_sem]; rfl) (fun K hK => ?_)) | ((with_reducible refine Ord.at_wild ?_); refine Ord.wild_move rfl rfl (fun K hK => ?_)) | ((with_reducible refine Ord.at_wild ?_); refine Ord.wild_nilCheck rfl rfl (fun K hK => ?_)) | with_reducible refine Ord.walk_eff rfl (by first | (simp; done) | assumption | (go_simp; done) | (repeat (first | assumption | exact Below.refl _ _ | refine Below.drew ?_ | refine Below.alloc ?_ (by first | omega | (simp; done) | (simp; omega)) _ | refine Below.setCell ?_ (by first | omega | (simp; done) | (simp; omega)) _ | refine Below.trans ?_ (Below.mono (by assumption) (by first | omega | (simp; done) | (simp; omega)))))) (fun K hK => ?_) | with_reducible refine Ord.at_fork ?_ ?_ | with_reducible refine Ord.walk_nil ?_ | (with_reducible refine Ord.next_of (by first | (simp; done) | (go_simp; done) | (repeat (first | assumption | exact Below.refl _ _ | refine Below.drew ?_ | refine Below.alloc ?_ (by first | omega | (simp; done) | (simp; omega)) _ | refine Below.setCell ?_ (by first | omega | (simp; done) | (simp; omega)) _ | refine Below.trans ?_ (Below.mono (by assumption) (by first | omega | (simp; done) | (simp; omega)))))) (fun _ => ?_)))
    go_ret
    exact ⟨lo + q, rfl, by omega, by omega, hdr.below (Below.refl _ _).drew, hoff.drew⟩
end Go.Proofs.Yteeinehpneppnaa
/- Plain laws of MobTrue. -/
set_option linter.unusedVariables false
set_option linter.unusedSimpArgs false
namespace Go.Proofs.Yteeinehpneppnaa
open Go.RowKit Go.Proofs
attribute [local irreducible] Ord.walk
theorem sumSet_bit (p : Nat → Bool) (i : Nat) : ∀ k, (sumSet p k).testBit i = (decide (i < k) && p i)
  | 0 => by simp [sumSet]
  | k + 1 => by
    have ih := sumSet_bit p i k
    have hlt := sumSet_lt p k
    simp only [sumSet]
    rcases Nat.lt_trichotomy i k with h | h | h
    · have e : (i < k + 1) ↔ (i < k) := by omega
      split
      · rw [Nat.add_comm, Nat.testBit_two_pow_add_gt h, ih]
        simp [e]
      · rw [Nat.add_zero, ih]
        simp [e]
    · subst h
      split
      · rename_i h
        rw [Nat.add_comm, Nat.testBit_two_pow_add_eq, ih]
        simp [h]
      · rename_i h
        rw [Nat.add_zero, ih]
        simp only [Bool.not_eq_true] at h
        simp [h]
    · have hp : 2 ^ (k + 1) ≤ 2 ^ i := Nat.pow_le_pow_right (by omega) (by omega)
      rw [Nat.testBit_lt_two_pow (Nat.lt_of_lt_of_le (by rw [Nat.pow_succ]; split <;> omega) hp)]
      have : ¬ i < k + 1 := by omega
      simp [this]
structure TfI (m : Mb) (L D : List Int) (day : Int) (i : Nat) : Prop where
  comes : ∀ p : Nat, startN m i ≤ p → p < m.places.length → ∃ lo hi : Int, comesR m i p = ((lo, hi), 0) ∧ lo ≤ dayAt m L D i p ∧ dayAt m L D i p ≤ hi
  now : ∃ set : Nat, whereP m i day = ((set : Int), 0) ∧ set < 64 ∧ set.testBit (nowT m i day (L, D)) = true
  str : ∃ lo hi : Int, stretchR m i = ((lo, hi), 0) ∧ lo ≤ strF m i L ∧ strF m i L ≤ hi
  safe : ∃ g : Int, safeR m i = (g, 0) ∧ ((g = 2 ∧ strF m i L ≤ thirstI m i) ∨ g = 1 ∨ (g = 0 ∧ thirstI m i < strF m i L))
structure Tf (m : Mb) (L D : List Int) (day : Int) : Prop where
  clash : ∃ c, clashP m = (c, 4)
  there : ∃ su pe : Nat, thereR m day = ((su : Int), (pe : Int), 0) ∧ su < 16 ∧ pe < 16 ∧ (∀ i, su.testBit i = true → pe.testBit i = true) ∧ ∀ i, i < m.herds.length → (dayAt m L D i (shedN m) ≤ day → pe.testBit i = true) ∧ (day < dayAt m L D i (shedN m) → su.testBit i = false)
  herd : ∀ i, i < m.herds.length → TfI m L D day i
  ahead : ∀ i k : Nat, i < m.herds.length → k < m.herds.length → ∃ g : Int, aheadP m i k = (g, 0) ∧ ((g = 2 ∧ dayAt m L D i (shedN m) < dayAt m L D k (shedN m)) ∨ g = 1 ∨ (g = 0 ∧ dayAt m L D k (shedN m) ≤ dayAt m L D i (shedN m)))
theorem tf {m : Mb} (hv : validM m = true) {L D : List Int} (ht : (L, D) ∈ TM m) {day : Int} (hd : 0 ≤ day ∧ day ≤ 100) : Tf m L D day := by
  have hT : TM m ≠ [] := fun e => by rw [e] at ht; cases ht
  have hlen := validM_len hv
  have hk : knownE m true = 0 := by unfold knownE; rw [if_neg (by simp [hv]), if_neg (by simp), if_neg hT]
  have hin : inB day 0 100 = true := by unfold inB; simp; omega
  have htr := TM_mem ht
  refine ⟨?_, ?_, fun i hi => ?_, fun i k hi hk' => ?_⟩
  · obtain ⟨x, e, h⟩ := cf hv
    rcases h.case with ⟨rfl, _, _⟩ | ⟨q, _, _, _, _, h2, _⟩
    · exact ⟨x, h.clash⟩
    · exact absurd (List.isEmpty_iff.1 h2) hT
  · refine ⟨sumSet (allT m day) m.herds.length, sumSet (anyT m day) m.herds.length, ?_, ?_, ?_, ?_, ?_⟩
    · rw [thereP_eq, thereE, hin, if_pos hk]
    · exact Nat.lt_of_lt_of_le (sumSet_lt _ _) (Nat.pow_le_pow_right (n := 2) (by omega) hlen.2.2.2.1)
    · exact Nat.lt_of_lt_of_le (sumSet_lt _ _) (Nat.pow_le_pow_right (n := 2) (by omega) hlen.2.2.2.1)
    · intro i h
      rw [sumSet_bit, Bool.and_eq_true] at h ⊢
      refine ⟨h.1, ?_⟩
      have h2 := h.2
      unfold allT at h2
      rw [List.all_eq_true] at h2
      exact List.any_eq_true.2 ⟨_, ht, h2 _ ht⟩
    · intro i hi
      rw [sumSet_bit, sumSet_bit]
      constructor
      · intro h
        rw [Bool.and_eq_true]
        exact ⟨decide_eq_true hi, List.any_eq_true.2 ⟨_, ht, by unfold byB; exact decide_eq_true h⟩⟩
      · intro h
        rw [Bool.and_eq_false_iff]
        right
        refine List.all_eq_false.2 ⟨_, ht, ?_⟩
        unfold byB
        simp only [decide_eq_true_eq]
        omega
  · have hst := start_le hv hi
    refine ⟨fun p h1 h2 => ?_, ?_, ?_, ?_⟩
    · have hf := fromB_of (m := m) hi (by rw [hst.2]; omega) h2
      refine ⟨_, _, comes_ok hv hf hT, ?_⟩
      exact (daysJ_in hT i p).1 L D ht
    · refine ⟨_, by rw [whereP_eq, whereE, herdB_of hi, hin, Bool.and_self, if_pos hk, Int.toNat_natCast], ?_, ?_⟩
      · refine orL_lt (by omega) _ fun p hp => ?_
        obtain ⟨t, _, rfl⟩ := List.mem_map.1 hp
        unfold nowT nowP
        have := (nowTo_in (m := m) t.1 (startN m i) (t.2.getD i 0) day (m.places.length - startN m i) (by omega) (by omega)).2
        omega
      · rw [orL_bit, Bool.or_eq_true]
        right
        exact decide_eq_true (List.mem_map.2 ⟨_, ht, rfl⟩)
    · refine ⟨(stretchJ m i).1, (stretchJ m i).2, by rw [stretchR_eq, stretchE, herdB_of hi, if_pos hk, Int.toNat_natCast], ?_⟩
      have hne := tm_ne hT (strT m i)
      have e : strT m i (L, D) = dup (strF m i L) := by
        unfold strT strF
        rw [dryM_F m L hst.1]
      constructor
      · refine (joinL_fst hne _).2 ⟨_, List.mem_map.2 ⟨_, ht, e⟩, Int.le_refl _⟩
      · have := (joinL_snd hne _).1 (Int.le_refl _) _ (List.mem_map.2 ⟨_, ht, e⟩)
        exact this
    · refine ⟨safeN m i, by unfold safeR; rw [herdB_of hi, ← knownE_eq, if_pos hk, Int.toNat_natCast], ?_⟩
      have hj : stretJ m i = stretchJ m i := stretch_eq hv hT i
      have hne := tm_ne hT (strT m i)
      have e : strT m i (L, D) = dup (strF m i L) := by
        unfold strT strF
        rw [dryM_F m L hst.1]
      have h1 : (stretchJ m i).1 ≤ strF m i L := (joinL_fst hne _).2 ⟨_, List.mem_map.2 ⟨_, ht, e⟩, Int.le_refl _⟩
      have h2 : strF m i L ≤ (stretchJ m i).2 := (joinL_snd hne _).1 (Int.le_refl _) _ (List.mem_map.2 ⟨_, ht, e⟩)
      unfold safeN grB
      rw [hj]
      generalize stretchJ m i = J at *
      by_cases c : J.2 ≤ thirstI m i
      · exact .inl ⟨by simp [c], by omega⟩
      · by_cases d : J.1 ≤ thirstI m i
        · exact .inr (.inl (by simp [c, d]))
        · exact .inr (.inr ⟨by simp [c, d], by omega⟩)
  · refine ⟨_, by rw [aheadP_eq, aheadR, herdB_of hi, herdB_of hk', Bool.and_self, if_pos hk, Int.toNat_natCast, Int.toNat_natCast], ?_⟩
    unfold gradeM aheadN
    split
    · rename_i h
      have := (List.countP_eq_length.1 h) _ ht
      exact .inl ⟨rfl, of_decide_eq_true this⟩
    · split
      · rename_i h
        have := (List.countP_eq_zero.1 h) _ ht
        refine .inr (.inr ⟨rfl, ?_⟩)
        simp only [decide_eq_true_eq] at this
        omega
      · exact .inr (.inl rfl)
/-- The place on a day: the farthest one that was come to. -/
theorem now_max {m : Mb} (hv : validM m = true) {L : List Int} (hL : L ∈ prodL m.legs) {s : Nat} (d day : Int) : ∀ k, s + k ≤ m.places.length → 1 ≤ k → (∀ j, j < k → inK m L s d j ≤ day → s + j ≤ nowTo m L s d day k) ∧ (nowTo m L s d day k = s ∨ ∃ j, j < k ∧ inK m L s d j ≤ day ∧ nowTo m L s d day k = s + j)
  | 0, _, h => absurd h (by omega)
  | k + 1, hk, _ => by
    simp only [nowTo]
    split
    · rename_i h
      exact ⟨fun j hj _ => by omega, .inr ⟨k, by omega, h, rfl⟩⟩
    · rename_i h
      rcases Nat.eq_zero_or_pos k with rfl | h0
      · refine ⟨fun j hj e => ?_, .inl rfl⟩
        obtain rfl : j = 0 := by omega
        exact absurd e h
      · obtain ⟨h1, h2⟩ := now_max (s := s) hv hL d day k (by omega) h0
        refine ⟨fun j hj e => ?_, ?_⟩
        · rcases Nat.lt_or_ge j k with c | c
          · exact h1 j c e
          · obtain rfl : j = k := by omega
            exact absurd e h
        · rcases h2 with h2 | ⟨j, hj, e, h2⟩
          · exact .inl h2
          · exact .inr ⟨j, by omega, e, h2⟩
end Go.Proofs.Yteeinehpneppnaa
