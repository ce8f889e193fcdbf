/- Parts of a proof: MwQ, MxP. -/
import Derived.Test.YteeinehpneppnaaQ33
import Derived.Test.YteeinehpneppnaaQ28
set_option linter.unusedVariables false
set_option linter.unusedSimpArgs false
namespace Go.Proofs.Yteeinehpneppnaa
open Go.RowKit Go.Proofs
attribute [local irreducible] Ord.walk
theorem now_mono {m : Mb} (hv : validM m = true) {L : List Int} (hL : L ∈ prodL m.legs) {s : Nat} (d : Int) {day day' : Int} (hd : day ≤ day') {k : Nat} (hk : s + k ≤ m.places.length) (h1 : 1 ≤ k) (hs : s < m.places.length) : nowTo m L s d day k ≤ nowTo m L s d day' k := by
  have a := (now_max hv hL (s := s) d day k hk h1).2
  have b := (now_max hv hL (s := s) d day' k hk h1).1
  have c := (nowTo_in (m := m) L s d day' k hk hs).1
  rcases a with a | ⟨j, hj, e, a⟩
  · omega
  · have := b j hj (by omega)
    omega
theorem now_shed {m : Mb} (hv : validM m = true) {L D : List Int} (hL : L ∈ prodL m.legs) {i : Nat} (hi : i < m.herds.length) (day : Int) : nowT m i day (L, D) = shedN m ↔ dayAt m L D i (shedN m) ≤ day := by
  have hst := (start_le hv hi).1
  have a := now_max hv hL (s := startN m i) (D.getD i 0) day (m.places.length - startN m i) (by omega) (by omega)
  have c := nowTo_in (m := m) L (startN m i) (D.getD i 0) day (m.places.length - startN m i) (by omega) (by omega)
  unfold nowT nowP dayAt shedN
  simp only
  constructor
  · intro h
    rcases a.2 with b | ⟨j, hj, e, b⟩
    · omega
    · rw [show m.places.length - 1 - startN m i = j by omega]
      exact e
  · intro h
    have := a.1 (m.places.length - 1 - startN m i) (by omega) h
    omega
theorem low_none {s n : Nat} (hs : s < 64) (hn : n < 64) (h : ∀ p, p < 6 → n.testBit p = true → ∃ q, q < 6 ∧ q ≤ p ∧ s.testBit q = true) : bits .and .i64 (n : Int) (bits .and .i64 (s : Int) (-(s : Int)) - 1) = 0 := by
  have key : ∀ s : Nat, s < 64 → ∀ n : Nat, n < 64 → (∀ p, p < 6 → n.testBit p = true → ∃ q, q < 6 ∧ q ≤ p ∧ s.testBit q = true) → bits .and .i64 (n : Int) (bits .and .i64 (s : Int) (-(s : Int)) - 1) = 0 := by decide +kernel
  exact key s hs n hn h
/-- All that MobWhere asks. -/
structure Wf (m : Mb) (i day : Nat) (set nx su pe : Nat) (lo hi e : Int) : Prop where
  w0 : whereP m i day = ((set : Int), e)
  w1 : whereP m i ((day : Int) + 1) = ((nx : Int), e)
  there : thereR m day = ((su : Int), (pe : Int), e)
  comes : comesR m i (shedN m) = ((lo, hi), e)
  case : (e = 10 ∧ canB m i day (prodL m.legs) = 0 ∧ set = 0) ∨ (e = 0 ∧ canB m i day (prodL m.legs) = set ∧ set ≠ 0 ∧ set < 64 ∧ nx < 64 ∧ bits .and .i64 (nx : Int) (bits .and .i64 (set : Int) (-(set : Int)) - 1) = 0 ∧ su < 16 ∧ pe < 16 ∧
    (su.testBit i = true ↔ set = 2 ^ shedN m) ∧ (pe.testBit i = true ↔ set.testBit (shedN m) = true) ∧ (su.testBit i = true ↔ hi ≤ day) ∧ (pe.testBit i = true ↔ lo ≤ day))
theorem wf {m : Mb} (hv : validM m = true) {i day : Nat} (hi : i < m.herds.length) (hd : day ≤ 44) : ∃ set nx su pe lo hi' e, Wf m i day set nx su pe lo hi' e := by
  have hlen := validM_len hv
  have hst := start_le hv hi
  have hin : inB (day : Int) 0 100 = true := by unfold inB; simp; omega
  have hin1 : inB ((day : Int) + 1) 0 100 = true := by unfold inB; simp; omega
  have hbi := herdB_of hi
  have hf := fromB_of (m := m) hi (p := shedN m) (by unfold shedN; rw [hst.2]; omega) (by unfold shedN; omega)
  by_cases hT : TM m = []
  · have hk : knownE m true = 10 := by unfold knownE; rw [if_neg (by simp [hv]), if_neg (by simp), if_pos hT]
    refine ⟨0, 0, 0, 0, 0, 0, 10, ?_, ?_, ?_, ?_, .inl ⟨rfl, ?_, rfl⟩⟩
    · rw [whereP_eq, whereE, hbi, hin, Bool.and_self, if_neg (by omega), hk]; rfl
    · rw [whereP_eq, whereE, hbi, hin1, Bool.and_self, if_neg (by omega), hk]; rfl
    · rw [thereP_eq, thereE, hin, if_neg (by omega), hk]; rfl
    · exact comes_clash hv hf hT
    · rw [can_where hv, where_eq hv hi, hT]; rfl
  · have hk : knownE m true = 0 := by unfold knownE; rw [if_neg (by simp [hv]), if_neg (by simp), if_neg hT]
    have hW : whereP m i day = (((whereN m i day : Nat) : Int), 0) := by
      rw [whereP_eq, whereE, hbi, hin, Bool.and_self, if_pos hk, Int.toNat_natCast, where_eq hv hi]
    have hW1 : whereP m i ((day : Int) + 1) = (((whereN m i ((day : Int) + 1) : Nat) : Int), 0) := by
      rw [whereP_eq, whereE, hbi, hin1, Bool.and_self, if_pos hk, Int.toNat_natCast, where_eq hv hi]
    have hbit : ∀ (d : Int) p, (whereN m i d).testBit p = true ↔ ∃ t ∈ TM m, nowT m i d t = p := fun d p => by
      rw [where_eq hv hi, orL_bit]
      simp [List.mem_map]
    have hlt6 : ∀ (d : Int) t, nowT m i d t < 6 := fun d t => by
      unfold nowT nowP
      have := (nowTo_in (m := m) t.1 (startN m i) (t.2.getD i 0) d (m.places.length - startN m i) (by omega) (by omega)).2
      omega
    have hlt : ∀ d : Int, whereN m i d < 64 := fun d => by
      rw [where_eq hv hi]
      refine orL_lt (by omega) _ fun p hp => ?_
      obtain ⟨t, _, rfl⟩ := List.mem_map.1 hp
      exact hlt6 d t
    obtain ⟨t0, ht0⟩ := List.exists_mem_of_ne_nil _ hT
    have hmem : ∀ t ∈ TM m, t.1 ∈ prodL m.legs := fun t ht => ((mem_TM hv t.1 t.2).1 ht).1
    have hsh : ∀ t ∈ TM m, (nowT m i day t = shedN m ↔ dayAt m t.1 t.2 i (shedN m) ≤ (day : Int)) := fun t ht => now_shed hv (hmem t ht) hi day
    have hsu : (sumSet (allT m day) m.herds.length).testBit i = true ↔ ∀ t ∈ TM m, dayAt m t.1 t.2 i (shedN m) ≤ (day : Int) := by
      rw [sumSet_bit, Bool.and_eq_true]
      unfold allT byB
      rw [List.all_eq_true]
      simp [hi]
    have hpe : (sumSet (anyT m day) m.herds.length).testBit i = true ↔ ∃ t ∈ TM m, dayAt m t.1 t.2 i (shedN m) ≤ (day : Int) := by
      rw [sumSet_bit, Bool.and_eq_true]
      unfold anyT byB
      rw [List.any_eq_true]
      simp [hi]
    have hne := tm_ne hT fun t => dup (dayAt m t.1 t.2 i (shedN m))
    refine ⟨whereN m i day, whereN m i ((day : Int) + 1), sumSet (allT m day) m.herds.length, sumSet (anyT m day) m.herds.length, (daysJ m i (shedN m)).1, (daysJ m i (shedN m)).2, 0, hW, hW1, ?_, comes_ok hv hf hT, .inr ⟨rfl, can_where hv i day, ?_, hlt _, hlt _, ?_, ?_, ?_, ?_, ?_, ?_, ?_⟩⟩
    · rw [thereP_eq, thereE, hin, if_pos hk]
    · intro e
      have := (hbit day (nowT m i day t0)).2 ⟨t0, ht0, rfl⟩
      rw [e] at this
      simp at this
    · refine low_none (hlt _) (hlt _) fun p hp hb => ?_
      obtain ⟨t, ht, rfl⟩ := (hbit _ _).1 hb
      refine ⟨nowT m i day t, hlt6 _ _, ?_, (hbit _ _).2 ⟨t, ht, rfl⟩⟩
      exact now_mono hv (hmem t ht) (s := startN m i) (t.2.getD i 0) (show (day : Int) ≤ (day : Int) + 1 by omega) (k := m.places.length - startN m i) (by omega) (by omega) (by omega)
    · exact Nat.lt_of_lt_of_le (sumSet_lt _ _) (Nat.pow_le_pow_right (n := 2) (by omega) hlen.2.2.2.1)
    · exact Nat.lt_of_lt_of_le (sumSet_lt _ _) (Nat.pow_le_pow_right (n := 2) (by omega) hlen.2.2.2.1)
    · rw [hsu]
      constructor
      · intro h
        refine Nat.eq_of_testBit_eq fun p => ?_
        rw [Nat.testBit_two_pow, Bool.eq_iff_iff, hbit, decide_eq_true_eq]
        constructor
        · rintro ⟨t, ht, rfl⟩
          exact ((hsh t ht).2 (h t ht)).symm
        · rintro rfl
          exact ⟨t0, ht0, (hsh t0 ht0).2 (h t0 ht0)⟩
      · intro h t ht
        refine (hsh t ht).1 ?_
        have := (hbit day (nowT m i day t)).2 ⟨t, ht, rfl⟩
        rw [h, Nat.testBit_two_pow, decide_eq_true_eq] at this
        exact this.symm
    · rw [hpe, hbit]
      constructor
      · rintro ⟨t, ht, h⟩
        exact ⟨t, ht, (hsh t ht).2 h⟩
      · rintro ⟨t, ht, h⟩
        exact ⟨t, ht, (hsh t ht).1 h⟩
    · rw [hsu]
      unfold daysJ
      rw [joinL_snd hne]
      constructor
      · intro h x hx
        obtain ⟨t, ht, rfl⟩ := List.mem_map.1 hx
        exact h t ht
      · intro h t ht
        exact h _ (List.mem_map.2 ⟨t, ht, rfl⟩)
    · rw [hpe]
      unfold daysJ
      rw [joinL_fst hne]
      constructor
      · rintro ⟨t, ht, h⟩
        exact ⟨_, List.mem_map.2 ⟨t, ht, rfl⟩, h⟩
      · rintro ⟨x, hx, h⟩
        obtain ⟨t, ht, rfl⟩ := List.mem_map.1 hx
        exact ⟨t, ht, h⟩
end Go.Proofs.Yteeinehpneppnaa
set_option linter.unusedVariables false
set_option linter.unusedSimpArgs false
namespace Go.Proofs.Yteeinehpneppnaa
open Go.RowKit Go.Proofs
attribute [local irreducible] Ord.walk
theorem joinL_in {β : Type} (l : List β) (f : β → Int) (hl : l ≠ []) : (∀ t ∈ l, (joinL (l.map fun t => dup (f t))).1 ≤ f t ∧ f t ≤ (joinL (l.map fun t => dup (f t))).2) ∧ (∃ t ∈ l, f t = (joinL (l.map fun t => dup (f t))).1) ∧ (∃ t ∈ l, f t = (joinL (l.map fun t => dup (f t))).2) := by
  have hne : (l.map fun t => dup (f t)) ≠ [] := by simpa using hl
  have h1 : ∀ t ∈ l, (joinL (l.map fun t => dup (f t))).1 ≤ f t ∧ f t ≤ (joinL (l.map fun t => dup (f t))).2 := fun t ht =>
    ⟨(joinL_fst hne _).2 ⟨_, List.mem_map.2 ⟨_, ht, rfl⟩, Int.le_refl _⟩, (joinL_snd hne _).1 (Int.le_refl _) _ (List.mem_map.2 ⟨_, ht, rfl⟩)⟩
  refine ⟨h1, ?_, ?_⟩
  · obtain ⟨x, hx, h2⟩ := (joinL_fst hne _).1 (Int.le_refl _)
    obtain ⟨t, ht, rfl⟩ := List.mem_map.1 hx
    have h3 : f t ≤ (joinL (l.map fun t => dup (f t))).1 := h2
    have := (h1 t ht).1
    exact ⟨t, ht, by omega⟩
  · rcases Classical.em (∃ t ∈ l, f t = (joinL (l.map fun t => dup (f t))).2) with h | h
    · exact h
    · exfalso
      have : (joinL (l.map fun t => dup (f t))).2 ≤ (joinL (l.map fun t => dup (f t))).2 - 1 := (joinL_snd hne _).2 fun x hx => by
        obtain ⟨t, ht, rfl⟩ := List.mem_map.1 hx
        have := (h1 t ht).2
        have : f t ≠ (joinL (l.map fun t => dup (f t))).2 := fun e => h ⟨t, ht, e⟩
        show f t ≤ (joinL (l.map fun t => dup (f t))).2 - 1
        omega
      omega
def dayS (m : Mb) (i : Nat) (t : List Int × List Int) : Int := dayAt m t.1 t.2 i (shedN m)
def dryS (m : Mb) (i : Nat) (t : List Int × List Int) : Int := dryM m t.1 (startN m i)
/-- The ends of a number over a list. -/
structure Ends {β : Type} (l : List β) (f : β → Int) (lo hi : Int) : Prop where
  all : ∀ t ∈ l, lo ≤ f t ∧ f t ≤ hi
  low : ∃ t ∈ l, f t = lo
  high : ∃ t ∈ l, f t = hi
theorem Ends.sub {β : Type} {l l' : List β} {f g : β → Int} {lo hi lo' hi' : Int} (a : Ends l f lo hi) (b : Ends l' g lo' hi') (h : ∀ t ∈ l', t ∈ l ∧ g t = f t) : lo ≤ lo' ∧ hi' ≤ hi := by
  obtain ⟨t, ht, e⟩ := b.low
  obtain ⟨u, hu, e2⟩ := b.high
  have h1 := h t ht
  have h2 := h u hu
  have h3 := a.all t h1.1
  have h4 := a.all u h2.1
  omega
theorem Ends.eq {β γ : Type} {l : List β} {l' : List γ} {f : β → Int} {g : γ → Int} {lo hi lo' hi' : Int} (a : Ends l f lo hi) (b : Ends l' g lo' hi') (h1 : ∀ t ∈ l, ∃ u ∈ l', g u = f t) (h2 : ∀ u ∈ l', ∃ t ∈ l, f t = g u) : lo = lo' ∧ hi = hi' := by
  obtain ⟨t, ht, e⟩ := a.low
  obtain ⟨u, hu, e'⟩ := h1 t ht
  obtain ⟨t2, ht2, e2⟩ := a.high
  obtain ⟨u2, hu2, e2'⟩ := h1 t2 ht2
  obtain ⟨v, hv, e3⟩ := b.low
  obtain ⟨s, hs, e3'⟩ := h2 v hv
  obtain ⟨v2, hv2, e4⟩ := b.high
  obtain ⟨s2, hs2, e4'⟩ := h2 v2 hv2
  have a1 := b.all u hu
  have a2 := b.all u2 hu2
  have a3 := a.all s hs
  have a4 := a.all s2 hs2
  omega
/-- All that MobMore asks of one way. -/
structure Tells (m : Mb) (i day : Nat) (lo hi slo shi e : Int) (set su pe : Nat) : Prop where
  comes : comesR m i (shedN m) = ((lo, hi), e)
  wher : whereP m i day = ((set : Int), e)
  str : stretchR m i = ((slo, shi), e)
  there : thereR m day = ((su : Int), (pe : Int), e)
  lt : set < 64 ∧ su < 16 ∧ pe < 16
  case : (TM m = [] ∧ e = 10 ∧ lo = 0 ∧ hi = 0 ∧ slo = 0 ∧ shi = 0 ∧ set = 0 ∧ su = 0 ∧ pe = 0) ∨ (TM m ≠ [] ∧ e = 0 ∧ Ends (TM m) (dayS m i) lo hi ∧ Ends (TM m) (dryS m i) slo shi ∧ (∀ p, set.testBit p = true ↔ ∃ t ∈ TM m, nowT m i day t = p) ∧
    (∀ j, su.testBit j = true ↔ j < m.herds.length ∧ ∀ t ∈ TM m, dayS m j t ≤ day) ∧ (∀ j, pe.testBit j = true ↔ j < m.herds.length ∧ ∃ t ∈ TM m, dayS m j t ≤ day))
theorem tells {m : Mb} (hv : validM m = true) {i day : Nat} (hi : i < m.herds.length) (hd : day ≤ 100) : ∃ lo hi' slo shi e set su pe, Tells m i day lo hi' slo shi e set su pe := by
  have hlen := validM_len hv
  have hst := start_le hv hi
  have hin : inB (day : Int) 0 100 = true := by unfold inB; simp; omega
  have hbi := herdB_of hi
  have hf := fromB_of (m := m) hi (p := shedN m) (by unfold shedN; rw [hst.2]; omega) (by unfold shedN; omega)
  by_cases hT : TM m = []
  · have hk : knownE m true = 10 := by unfold knownE; rw [if_neg (by simp [hv]), if_neg (by simp), if_pos hT]
    refine ⟨0, 0, 0, 0, 10, 0, 0, 0, comes_clash hv hf hT, ?_, ?_, ?_, by omega, .inl ⟨hT, rfl, rfl, rfl, rfl, rfl, rfl, rfl, rfl⟩⟩
    · rw [whereP_eq, whereE, hbi, hin, Bool.and_self, if_neg (by omega), hk]; rfl
    · rw [stretchR_eq, stretchE, hbi, if_neg (by omega), hk]
    · rw [thereP_eq, thereE, hin, if_neg (by omega), hk]; rfl
  · have hk : knownE m true = 0 := by unfold knownE; rw [if_neg (by simp [hv]), if_neg (by simp), if_neg hT]
    have hlt6 : ∀ t, nowT m i day t < 6 := fun t => by
      unfold nowT nowP
      have := (nowTo_in (m := m) t.1 (startN m i) (t.2.getD i 0) day (m.places.length - startN m i) (by omega) (by omega)).2
      omega
    obtain ⟨a1, a2, a3⟩ := joinL_in (TM m) (dayS m i) hT
    obtain ⟨b1, b2, b3⟩ := joinL_in (TM m) (dryS m i) hT
    refine ⟨_, _, _, _, 0, orL 0 ((TM m).map (nowT m i day)), sumSet (allT m day) m.herds.length, sumSet (anyT m day) m.herds.length, comes_ok hv hf hT, ?_, ?_, ?_, ⟨?_, ?_, ?_⟩, .inr ⟨hT, rfl, ⟨a1, a2, a3⟩, ⟨b1, b2, b3⟩, fun p => ?_, fun j => ?_, fun j => ?_⟩⟩
    · rw [whereP_eq, whereE, hbi, hin, Bool.and_self, if_pos hk, Int.toNat_natCast]
    · rw [stretchR_eq, stretchE, hbi, if_pos hk, Int.toNat_natCast]; rfl
    · rw [thereP_eq, thereE, hin, if_pos hk]
    · refine orL_lt (by omega) _ fun p hp => ?_
      obtain ⟨t, _, rfl⟩ := List.mem_map.1 hp
      exact hlt6 t
    · exact Nat.lt_of_lt_of_le (sumSet_lt _ _) (Nat.pow_le_pow_right (n := 2) (by omega) hlen.2.2.2.1)
    · exact Nat.lt_of_lt_of_le (sumSet_lt _ _) (Nat.pow_le_pow_right (n := 2) (by omega) hlen.2.2.2.1)
    · rw [orL_bit]
      simp [List.mem_map]
    · rw [sumSet_bit, Bool.and_eq_true, decide_eq_true_eq]
      unfold allT byB
      rw [List.all_eq_true]
      simp [dayS]
    · rw [sumSet_bit, Bool.and_eq_true, decide_eq_true_eq]
      unfold anyT byB
      rw [List.any_eq_true]
      simp [dayS]
/-- Another way with the same places and starts. -/
structure Like (m q : Mb) : Prop where
  places : q.places = m.places
  len : q.herds.length = m.herds.length
  start : ∀ i, startN q i = startN m i
theorem inK_pl {m q : Mb} (h : q.places = m.places) (L : List Int) (s : Nat) (d : Int) : ∀ k, inK q L s d k = inK m L s d k
  | 0 => rfl
  | k + 1 => by
    simp only [inK]
    rw [inK_pl h L s d k]
    unfold stayK waterB restI
    rw [h]
theorem nowTo_pl {m q : Mb} (h : q.places = m.places) (L : List Int) (s : Nat) (d day : Int) : ∀ k, nowTo q L s d day k = nowTo m L s d day k
  | 0 => rfl
  | k + 1 => by
    simp only [nowTo]
    rw [nowTo_pl h L s d day k, inK_pl h]
theorem dryTo_pl {m q : Mb} (h : q.places = m.places) (L : List Int) (s : Nat) : ∀ k, dryTo q L s k = dryTo m L s k
  | 0 => rfl
  | k + 1 => by
    simp only [dryTo]
    rw [dryTo_pl h L s k, inK_pl h]
    unfold waterB restI
    rw [h]
theorem shed_pl {m q : Mb} (h : q.places = m.places) : shedN q = shedN m := by unfold shedN; rw [h]
theorem dry_pl {m q : Mb} (h : q.places = m.places) (L : List Int) (s : Nat) : dryM q L s = dryM m L s := by unfold dryM; rw [dryTo_pl h, h]
theorem Like.day {m q : Mb} (h : Like m q) (L D : List Int) (i p : Nat) : dayAt q L D i p = dayAt m L D i p := by unfold dayAt; rw [inK_pl h.places, h.start]
theorem Like.now {m q : Mb} (h : Like m q) (i : Nat) (d : Int) (t : List Int × List Int) : nowT q i d t = nowT m i d t := by unfold nowT nowP; rw [nowTo_pl h.places, h.start, h.places]
theorem Like.seen {m q : Mb} (h : Like m q) (L D : List Int) (s : Int × Int × Int × Int) : seenB q L D s = seenB m L D s := by unfold seenB; rw [h.day]
theorem TM_mono {m q : Mb} (hv : validM m = true) (hq : validM q = true) (h : Like m q) (h1 : ∀ L, L ∈ prodL q.legs → L ∈ prodL m.legs) (h2 : ∀ D, D ∈ prodL (leavesL q) → D ∈ prodL (leavesL m)) (h3 : ∀ s ∈ m.seen, s ∈ q.seen) : ∀ t ∈ TM q, t ∈ TM m := by
  rintro ⟨L, D⟩ ht
  obtain ⟨a, b, c⟩ := (mem_TM hq L D).1 ht
  refine (mem_TM hv L D).2 ⟨h1 L a, h2 D b, fun s hs => ?_⟩
  rw [← h.seen]
  exact c s (h3 s hs)
theorem andNot_none6 {x y : Nat} (hx : x < 64) (hy : y < 64) (h : ∀ i, x.testBit i = true → y.testBit i = true) : bits .andNot .i64 (x : Int) (y : Int) = 0 := by
  rw [andNot_i64 x y (by omega) (by omega)]
  have : x ^^^ (x &&& y) = 0 := by
    refine Nat.eq_of_testBit_eq fun i => ?_
    have := h i
    simp only [Nat.testBit_xor, Nat.testBit_and, Nat.zero_testBit]
    cases h1 : x.testBit i <;> simp_all
  rw [this]
  rfl
/-- What is known better is told no less exactly. -/
theorem more_sub {m q : Mb} (h : Like m q) (hT : ∀ t ∈ TM q, t ∈ TM m) {i day : Nat} {lo hi slo shi e lo' hi' slo' shi' k : Int} {set su pe set' su' pe' : Nat} (a : Tells m i day lo hi slo shi e set su pe) (b : Tells q i day lo' hi' slo' shi' k set' su' pe') :
    k = 10 ∨ (k = 0 ∧ e = 0 ∧ lo ≤ lo' ∧ hi' ≤ hi ∧ bits .andNot .i64 (set' : Int) (set : Int) = 0 ∧ slo ≤ slo' ∧ shi' ≤ shi ∧ bits .andNot .i64 (su : Int) (su' : Int) = 0 ∧ bits .andNot .i64 (pe' : Int) (pe : Int) = 0) := by
  rcases b.case with ⟨_, h1, _⟩ | ⟨hne, h1, b1, b2, b3, b4, b5⟩
  · exact .inl h1
  · rcases a.case with ⟨h2, _⟩ | ⟨_, h2, a1, a2, a3, a4, a5⟩
    · exfalso
      obtain ⟨t, ht⟩ := List.exists_mem_of_ne_nil _ hne
      have := hT t ht
      rw [h2] at this
      cases this
    · have hday : ∀ j t, dayS q j t = dayS m j t := fun j t => by unfold dayS; rw [h.day, shed_pl h.places]
      have c1 := a1.sub b1 fun t ht => ⟨hT t ht, hday i t⟩
      have c2 := a2.sub b2 fun t ht => ⟨hT t ht, by unfold dryS; rw [dry_pl h.places, h.start]⟩
      have hla := a.lt
      have hlb := b.lt
      refine .inr ⟨h1, h2, c1.1, c1.2, andNot_none6 (by omega) (by omega) fun p hp => ?_, c2.1, c2.2, andNot_none6 (by omega) (by omega) fun j hj => ?_, andNot_none6 (by omega) (by omega) fun j hj => ?_⟩
      · obtain ⟨t, ht, e⟩ := (b3 p).1 hp
        exact (a3 p).2 ⟨t, hT t ht, by rw [← h.now]; exact e⟩
      · have := (a4 j).1 hj
        exact (b4 j).2 ⟨by rw [h.len]; exact this.1, fun t ht => by rw [hday]; exact this.2 t (hT t ht)⟩
      · obtain ⟨h3, t, ht, e⟩ := (b5 j).1 hj
        exact (a5 j).2 ⟨by rw [← h.len]; exact h3, t, hT t ht, by rw [← hday]; exact e⟩
theorem with_like (m : Mb) (s : Int × Int × Int × Int) : Like m (withM m s) := ⟨rfl, rfl, fun _ => rfl⟩
theorem with_sub {m : Mb} (hv : validM m = true) {s : Int × Int × Int × Int} (hq : validM (withM m s) = true) : ∀ t ∈ TM (withM m s), t ∈ TM m :=
  TM_mono hv hq (with_like m s) (fun _ h => h) (fun _ h => h) fun s hs => by
    show s ∈ m.seen ++ _
    exact List.mem_append_left _ hs
def nar (low : Bool) (v : Int × Int) : Int × Int := if low = true then (min v.2 (v.1 + 1), v.2) else (v.1, max v.1 (v.2 - 1))
theorem nar_in {low : Bool} {v : Int × Int} (h : v.1 ≤ v.2) : v.1 ≤ (nar low v).1 ∧ (nar low v).2 ≤ v.2 := by
  unfold nar
  split <;> simp only <;> omega
theorem prodL_set {l : List (Int × Int)} {p : Nat} {v : Int × Int} (hp : p < l.length) (h1 : l[p].1 ≤ v.1) (h2 : v.2 ≤ l[p].2) {L : List Int} (h : L ∈ prodL (l.set p v)) : L ∈ prodL l := by
  rw [mem_prodL] at h ⊢
  obtain ⟨ha, hb⟩ := h
  refine ⟨ha.trans (List.length_set ..), fun i hi => ?_⟩
  obtain ⟨y, e, h3, h4⟩ := hb i (by rw [List.length_set]; exact hi)
  refine ⟨y, e, ?_⟩
  rw [List.getElem_set] at h3 h4
  by_cases hpi : p = i
  · subst hpi
    simp only [if_true] at h3 h4
    omega
  · rw [if_neg hpi] at h3 h4
    exact ⟨h3, h4⟩
def yLeg (m : Mb) (p : Nat) (low : Bool) : Mb := { m with legs := m.legs.set p (nar low (m.legs.getD p (0, 0))) }
def narH (low : Bool) (h : Int × Int × Int × Int) : Int × Int × Int × Int := (h.1, (nar low (h.2.1, h.2.2.1)).1, (nar low (h.2.1, h.2.2.1)).2, h.2.2.2)
def yHerd (m : Mb) (i : Nat) (low : Bool) : Mb := { m with herds := m.herds.set i (narH low (m.herds.getD i (0, 0, 0, 0))) }
theorem yleg_sub {m : Mb} (hv : validM m = true) {p : Nat} (hp : p < m.legs.length) {low : Bool} (hq : validM (yLeg m p low) = true) : Like m (yLeg m p low) ∧ ∀ t ∈ TM (yLeg m p low), t ∈ TM m := by
  have hl : Like m (yLeg m p low) := ⟨rfl, rfl, fun _ => rfl⟩
  have hg : m.legs.getD p (0, 0) = m.legs[p] := by rw [List.getD_eq_getElem?_getD, List.getElem?_eq_getElem hp]; rfl
  have h1 := (vparts hv).lg _ (List.getElem_mem hp)
  have h2 := nar_in (low := low) (v := m.legs[p]) (by omega)
  refine ⟨hl, TM_mono hv hq hl (fun L h => ?_) (fun _ h => h) fun _ h => h⟩
  have h' : L ∈ prodL (m.legs.set p (nar low (m.legs.getD p (0, 0)))) := h
  rw [hg] at h'
  exact prodL_set hp h2.1 h2.2 h'
theorem yherd_sub {m : Mb} (hv : validM m = true) {i : Nat} (hi : i < m.herds.length) {low : Bool} (hq : validM (yHerd m i low) = true) : Like m (yHerd m i low) ∧ ∀ t ∈ TM (yHerd m i low), t ∈ TM m := by
  have hg : m.herds.getD i (0, 0, 0, 0) = m.herds[i] := by rw [List.getD_eq_getElem?_getD, List.getElem?_eq_getElem hi]; rfl
  have hl : Like m (yHerd m i low) := by
    refine ⟨rfl, by simp [yHerd], fun j => ?_⟩
    unfold startN startI yHerd
    simp only [Int.toNat_natCast]
    congr 1
    rw [List.getElem?_set, hg]
    split
    · rename_i h
      subst h
      rw [List.getElem?_eq_getElem hi]
      rfl
    · rfl
  have h1 := (vparts hv).hd _ (List.getElem_mem hi)
  have h2 := nar_in (low := low) (v := (m.herds[i].2.1, m.herds[i].2.2.1)) (by show m.herds[i].2.1 ≤ m.herds[i].2.2.1; omega)
  refine ⟨hl, TM_mono hv hq hl (fun _ h => h) (fun D h => ?_) fun _ h => h⟩
  have hi2 : i < (leavesL m).length := by simpa [leavesL] using hi
  have e : leavesL (yHerd m i low) = (leavesL m).set i (nar low (m.herds[i].2.1, m.herds[i].2.2.1)) := by
    unfold leavesL yHerd
    rw [hg, List.map_set]
    rfl
  rw [e] at h
  refine prodL_set hi2 ?_ ?_ h
  · simpa [leavesL] using h2.1
  · simpa [leavesL] using h2.2
def flipS (n : Nat) (s : Int × Int × Int × Int) : Int × Int × Int × Int := ((n : Int) - 1 - s.1, s.2.1, s.2.2.1, s.2.2.2)
def flipM (m : Mb) : Mb := ⟨m.places, m.legs, m.herds.reverse, m.seen.reverse.map (flipS m.herds.length)⟩
theorem flip_get (m : Mb) {i : Nat} (hi : i < m.herds.length) : (flipM m).herds.getD (m.herds.length - 1 - i) (0, 0, 0, 0) = m.herds.getD i (0, 0, 0, 0) := by
  unfold flipM
  simp only
  rw [List.getD_eq_getElem?_getD, List.getD_eq_getElem?_getD, List.getElem?_reverse (by omega)]
  congr 2
  omega
theorem flip_start (m : Mb) {i : Nat} (hi : i < m.herds.length) : startI (flipM m) ((m.herds.length - 1 - i : Nat) : Int) = startI m i := by
  have := flip_get m hi
  unfold startI
  rw [Int.toNat_natCast, Int.toNat_natCast, ← List.getD_eq_getElem?_getD, ← List.getD_eq_getElem?_getD, this]
theorem flip_valid {m : Mb} (hv : validM m = true) : validM (flipM m) = true := by
  have h := vparts hv
  refine VParts.valid ⟨h.pl, ?_, h.lg, fun x hx => h.hd x (by simpa [flipM] using hx), fun s hs => ?_⟩
  · have := h.len
    simp only [flipM, List.length_reverse, List.length_map]
    exact this
  · have hs' : s ∈ m.seen.reverse.map (flipS m.herds.length) := hs
    obtain ⟨s0, h0, rfl⟩ := List.mem_map.1 hs'
    have h1 := h.sn s0 (by simpa using h0)
    refine ⟨?_, h1.2⟩
    have h2 := h1.1
    obtain ⟨h3, h4, h5, h6, h7⟩ := from_herd h2
    have hb : s0.1 = ((s0.1.toNat : Nat) : Int) := by omega
    have hlt : s0.1.toNat < m.herds.length := by omega
    have he : (flipS m.herds.length s0).1 = ((m.herds.length - 1 - s0.1.toNat : Nat) : Int) := by unfold flipS; simp only; omega
    rw [he]
    have hst := flip_start m hlt
    rw [← hb] at hst
    have hp : (flipS m.herds.length s0).2.1 = ((s0.2.1.toNat : Nat) : Int) := by unfold flipS; simp only; omega
    rw [hp]
    refine fromB_of (m := flipM m) (by show _ < m.herds.reverse.length; rw [List.length_reverse]; omega) ?_ (by show _ < m.places.length; omega)
    rw [hst]
    omega
theorem flip_day (m : Mb) (L D : List Int) (hD : D.length = m.herds.length) {i : Nat} (hi : i < m.herds.length) (p : Nat) : dayAt (flipM m) L D (m.herds.length - 1 - i) p = dayAt m L D.reverse i p := by
  unfold dayAt
  have e : startN (flipM m) (m.herds.length - 1 - i) = startN m i := by unfold startN; rw [flip_start m hi]
  rw [e, inK_pl (m := m) (q := flipM m) rfl]
  congr 1
  rw [List.getD_eq_getElem?_getD, List.getD_eq_getElem?_getD, List.getElem?_reverse (by omega), hD]
theorem flip_leaves (m : Mb) : leavesL (flipM m) = (leavesL m).reverse := by
  unfold leavesL flipM
  rw [List.map_reverse]
theorem prodL_rev (l : List (Int × Int)) (D : List Int) : D ∈ prodL l.reverse → D.reverse ∈ prodL l := by
  rw [mem_prodL, mem_prodL]
  rintro ⟨h1, h2⟩
  rw [List.length_reverse] at h1
  refine ⟨by rw [List.length_reverse]; exact h1, fun i hi => ?_⟩
  obtain ⟨y, e, h3⟩ := h2 (l.length - 1 - i) (by rw [List.length_reverse]; omega)
  refine ⟨y, by rw [List.getElem?_reverse (by omega), h1]; exact e, ?_⟩
  rw [List.getElem_reverse] at h3
  have e2 : l.length - 1 - (l.length - 1 - i) = i := by omega
  simp only [e2] at h3
  exact h3
theorem flip_TM {m : Mb} (hv : validM m = true) (L D : List Int) : (L, D) ∈ TM (flipM m) ↔ D.length = m.herds.length ∧ (L, D.reverse) ∈ TM m := by
  have hz := flip_valid hv
  rw [mem_TM hz, mem_TM hv, flip_leaves]
  have key : D.length = m.herds.length → ((∀ s ∈ (flipM m).seen, seenB (flipM m) L D s = true) ↔ ∀ s ∈ m.seen, seenB m L D.reverse s = true) := fun hD => by
    have h1 : ∀ s ∈ m.seen, seenB (flipM m) L D (flipS m.herds.length s) = seenB m L D.reverse s := fun s hs => by
      have h2 := ((vparts hv).sn s hs).1
      obtain ⟨h3, h4, h5, h6, h7⟩ := from_herd h2
      have e : (flipS m.herds.length s).1.toNat = m.herds.length - 1 - s.1.toNat := by unfold flipS; simp only; omega
      unfold seenB
      rw [e, flip_day m L D hD (by omega)]
      rfl
    constructor
    · intro h s hs
      rw [← h1 s hs]
      exact h _ (List.mem_map.2 ⟨s, by simpa using hs, rfl⟩)
    · intro h s hs
      obtain ⟨s0, h0, rfl⟩ := List.mem_map.1 (show s ∈ m.seen.reverse.map (flipS m.herds.length) from hs)
      have h0' : s0 ∈ m.seen := by simpa using h0
      rw [h1 s0 h0']
      exact h s0 h0'
  constructor
  · rintro ⟨a, b, c⟩
    have hD : D.length = m.herds.length := by
      have := ((mem_prodL _ _).1 b).1
      simpa [leavesL] using this
    exact ⟨hD, a, prodL_rev _ _ b, (key hD).1 c⟩
  · rintro ⟨hD, a, b, c⟩
    refine ⟨a, ?_, (key hD).2 c⟩
    have := prodL_rev (leavesL m).reverse D.reverse (by rwa [List.reverse_reverse])
    rwa [List.reverse_reverse] at this
theorem more_flip {m : Mb} (hv : validM m = true) {i day : Nat} (hi : i < m.herds.length) {lo hi' slo shi e lo2 hi2 slo2 shi2 k : Int} {set su pe set2 su2 pe2 : Nat} (a : Tells m i day lo hi' slo shi e set su pe) (b : Tells (flipM m) (m.herds.length - 1 - i) day lo2 hi2 slo2 shi2 k set2 su2 pe2) :
    lo2 = lo ∧ hi2 = hi' ∧ slo2 = slo ∧ shi2 = shi ∧ k = e ∧ set2 = set := by
  have hsn : startN (flipM m) (m.herds.length - 1 - i) = startN m i := by unfold startN; rw [flip_start m hi]
  have f1 : ∀ t ∈ TM m, ∃ u ∈ TM (flipM m), u.1 = t.1 ∧ u.2.reverse = t.2 ∧ u.2.length = m.herds.length := fun t ht => by
    have h1 : t.2.length = m.herds.length := by
      have := ((mem_prodL _ _).1 ((mem_TM hv t.1 t.2).1 ht).2.1).1
      simpa [leavesL] using this
    exact ⟨(t.1, t.2.reverse), (flip_TM hv _ _).2 ⟨by simpa using h1, by rw [List.reverse_reverse]; exact ht⟩, rfl, by simp, by simpa using h1⟩
  have f2 : ∀ u ∈ TM (flipM m), ∃ t ∈ TM m, u.1 = t.1 ∧ u.2.reverse = t.2 ∧ u.2.length = m.herds.length := fun u hu => by
    obtain ⟨h1, h2⟩ := (flip_TM hv u.1 u.2).1 hu
    exact ⟨_, h2, rfl, rfl, h1⟩
  have g1 : ∀ u t : List Int × List Int, u.1 = t.1 ∧ u.2.reverse = t.2 ∧ u.2.length = m.herds.length → dayS (flipM m) (m.herds.length - 1 - i) u = dayS m i t := fun u t ⟨h1, h2, h3⟩ => by
    unfold dayS
    rw [flip_day m u.1 u.2 h3 hi, h1, h2]
    rfl
  have g2 : ∀ u t : List Int × List Int, u.1 = t.1 ∧ u.2.reverse = t.2 ∧ u.2.length = m.herds.length → dryS (flipM m) (m.herds.length - 1 - i) u = dryS m i t := fun u t ⟨h1, h2, h3⟩ => by
    unfold dryS
    rw [hsn, dry_pl (m := m) (q := flipM m) rfl, h1]
  have g3 : ∀ u t : List Int × List Int, u.1 = t.1 ∧ u.2.reverse = t.2 ∧ u.2.length = m.herds.length → nowT (flipM m) (m.herds.length - 1 - i) day u = nowT m i day t := fun u t ⟨h1, h2, h3⟩ => by
    unfold nowT nowP
    rw [hsn, nowTo_pl (m := m) (q := flipM m) rfl, h1, ← h2]
    congr 1
    rw [List.getD_eq_getElem?_getD, List.getD_eq_getElem?_getD, List.getElem?_reverse (by omega), h3]
  have hla := a.lt
  have hlb := b.lt
  rcases a.case with ⟨h1, rfl, rfl, rfl, rfl, rfl, rfl, rfl, rfl⟩ | ⟨h1, rfl, a1, a2, a3, _, _⟩
  · rcases b.case with ⟨h2, rfl, rfl, rfl, rfl, rfl, rfl, rfl, rfl⟩ | ⟨h2, _⟩
    · exact ⟨rfl, rfl, rfl, rfl, rfl, rfl⟩
    · exfalso
      obtain ⟨u, hu⟩ := List.exists_mem_of_ne_nil _ h2
      obtain ⟨t, ht, _⟩ := f2 u hu
      rw [h1] at ht
      cases ht
  · rcases b.case with ⟨h2, _⟩ | ⟨h2, rfl, b1, b2, b3, _, _⟩
    · exfalso
      obtain ⟨t, ht⟩ := List.exists_mem_of_ne_nil _ h1
      obtain ⟨u, hu, _⟩ := f1 t ht
      rw [h2] at hu
      cases hu
    · have c1 := a1.eq b1 (fun t ht => (f1 t ht).imp fun u h => ⟨h.1, g1 u t h.2⟩) (fun u hu => (f2 u hu).imp fun t h => ⟨h.1, (g1 u t h.2).symm⟩)
      have c2 := a2.eq b2 (fun t ht => (f1 t ht).imp fun u h => ⟨h.1, g2 u t h.2⟩) (fun u hu => (f2 u hu).imp fun t h => ⟨h.1, (g2 u t h.2).symm⟩)
      refine ⟨c1.1.symm, c1.2.symm, c2.1.symm, c2.2.symm, rfl, Nat.eq_of_testBit_eq fun p => ?_⟩
      rw [Bool.eq_iff_iff, a3, b3]
      constructor
      · rintro ⟨u, hu, h⟩
        obtain ⟨t, ht, h3⟩ := f2 u hu
        exact ⟨t, ht, by rw [← g3 u t h3]; exact h⟩
      · rintro ⟨t, ht, h⟩
        obtain ⟨u, hu, h3⟩ := f1 t ht
        exact ⟨u, hu, by rw [g3 u t h3]; exact h⟩
def lateM (m : Mb) (i : Nat) : Mb := { m with herds := lateL m i 1, seen := [] }
theorem more_late {m : Mb} (hv : validM m = true) {i : Nat} (hi : i < m.herds.length) : ∃ a b : Int, -10000 ≤ a ∧ a ≤ 10000 ∧ -10000 ≤ b ∧ b ≤ 10000 ∧ comesR (bareM m) i (shedN m) = ((a, b), 0) ∧ ((m.herds.getD i (0, 0, 0, 0)).2.2.1 < 30 → comesR (lateM m i) i (shedN m) = ((a + 1, b + 1), 0)) := by
  have hst := start_le hv hi
  have hlen := validM_len hv
  have hb := bare_valid hv
  obtain ⟨_, hT, _⟩ := bare_known hb rfl (vb := true) rfl
  have hp : shedN m < m.places.length := by unfold shedN; omega
  have hf : fromB (bareM m) i (shedN m) = true := fromB_of (m := bareM m) hi (by show startI m i ≤ _; rw [hst.2]; unfold shedN; omega) hp
  have h1 := comes_ok hb hf hT
  rw [bare_days hv hi hp] at h1
  obtain ⟨hlo, hhi⟩ := legs_lo hv
  have hh := (vparts hv).hd _ (List.getElem_mem hi)
  have hg : m.herds.getD i (0, 0, 0, 0) = m.herds[i] := by rw [List.getD_eq_getElem?_getD, List.getElem?_eq_getElem hi]; rfl
  have c1 := inK_bound hv (L := lowL m) hlo (startN m i) (d := (m.herds.getD i (0, 0, 0, 0)).2.1) (by rw [hg]; omega) (by rw [hg]; omega) (shedN m - startN m i)
  have c2 := inK_bound hv (L := highL m) hhi (startN m i) (d := (m.herds.getD i (0, 0, 0, 0)).2.2.1) (by rw [hg]; omega) (by rw [hg]; omega) (shedN m - startN m i)
  refine ⟨_, _, ?_, ?_, ?_, ?_, h1, fun h30 => ?_⟩
  · omega
  · omega
  · omega
  · omega
  · have hlt := late_mem (vparts hv) hi (n := 1) (by omega)
    have hll : lateL m i 1 = m.herds.set i ((m.herds.getD i (0, 0, 0, 0)).1, (m.herds.getD i (0, 0, 0, 0)).2.1 + 1, (m.herds.getD i (0, 0, 0, 0)).2.2.1 + 1, (m.herds.getD i (0, 0, 0, 0)).2.2.2) := by
      unfold lateL
      rw [if_pos (by omega)]
    have hvx : validM { m with herds := lateL m i 1, seen := [] } = true := by
      refine VParts.valid ⟨(vparts hv).pl, ?_, (vparts hv).lg, fun h hh => hlt.2.2 h hh, fun s hs => by cases hs⟩
      have := (vparts hv).len
      refine ⟨this.1, this.2.1, this.2.2.1, ?_, by simp⟩
      show (lateL m i 1).length ≤ 4
      rw [hlt.1]
      exact this.2.2.2.1
    have hix : i < (lateM m i).herds.length := by show i < (lateL m i 1).length; rw [hlt.1]; exact hi
    have hstx : startN (lateM m i) i = startN m i := by
      unfold startN startI lateM
      simp only [Int.toNat_natCast]
      rw [← List.getD_eq_getElem?_getD, hlt.2.1, List.getD_eq_getElem?_getD]
    have hstI : startI (lateM m i) i = startI m i := by
      unfold startI lateM
      simp only [Int.toNat_natCast]
      rw [← List.getD_eq_getElem?_getD, hlt.2.1, List.getD_eq_getElem?_getD]
    obtain ⟨_, hTx, _⟩ := bare_known (x := lateM m i) hvx rfl (vb := true) rfl
    have hfx : fromB (lateM m i) i (shedN m) = true := fromB_of (m := lateM m i) hix (by rw [hstI, hst.2]; unfold shedN; omega) hp
    have h2 := comes_ok hvx hfx hTx
    have e := bare_days (m := lateM m i) hvx hix (p := shedN m) hp
    have e' : bareM (lateM m i) = lateM m i := rfl
    rw [e'] at e
    have h3 : comesR (lateM m i) i (shedN m) = (daysJ (lateM m i) i (shedN m), 0) := h2
    rw [h3, e]
    have hgx : (lateM m i).herds.getD i (0, 0, 0, 0) = ((m.herds.getD i (0, 0, 0, 0)).1, (m.herds.getD i (0, 0, 0, 0)).2.1 + 1, (m.herds.getD i (0, 0, 0, 0)).2.2.1 + 1, (m.herds.getD i (0, 0, 0, 0)).2.2.2) := by
      show (lateL m i 1).getD i (0, 0, 0, 0) = _
      rw [hll, List.getD_eq_getElem?_getD, List.getElem?_set_self hi]
      rfl
    rw [hgx, hstx]
    have k1 : ∀ (L : List Int) (d : Int), inK (lateM m i) L (startN m i) (d + 1) (shedN m - startN m i) = inK m L (startN m i) d (shedN m - startN m i) + 1 := fun L d => by
      rw [inK_pl (m := m) (q := lateM m i) rfl, inK_add m L _ (d + 1), inK_add m L _ d]
      omega
    simp only [k1]
    rfl
end Go.Proofs.Yteeinehpneppnaa
