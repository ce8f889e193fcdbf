/- Parts of a proof: MwP, MwQ. -/
import Derived.Test.YteeinehpneppnaaW42
import Derived.Test.YteeinehpneppnaaW32
/- Plain laws of MobWhere. -/
set_option linter.unusedVariables false
set_option linter.unusedSimpArgs false
namespace Go.Proofs.Yteeinehpneppnaa
open Go.RowKit Go.Proofs
attribute [local irreducible] Ord.walk
/-- Is a thing that was seen right of a mob that leaves on a day? -/
def seenOk (m : Mb) (L : List Int) (n : Nat) (d : Int) (s : Int × Int × Int × Int) : Bool := decide (s.1 ≠ (n : Int)) || inB (inK m L (startN m n) d (s.2.1.toNat - startN m n)) s.2.2.1 s.2.2.2
def rgB (m : Mb) (L : List Int) (n : Nat) (d : Int) : Bool := m.seen.all (seenOk m L n d)
def lvR (m : Mb) (n : Nat) : List Int := rangeI (m.herds.getD n (0, 0, 0, 0)).2.1 (m.herds.getD n (0, 0, 0, 0)).2.2.1
/-- Can all mobs have left so that what was seen is right? -/
def allB (m : Mb) (L : List Int) : Bool := (List.range m.herds.length).all fun n => (lvR m n).any (rgB m L n)
/-- The places of a mob on a day, of all days of leaving that are right. -/
def nowsB (m : Mb) (i : Nat) (day : Int) (L : List Int) : List Nat := ((lvR m i).filter (rgB m L i)).map fun d => nowP m L (startN m i) d day
def canB (m : Mb) (i : Nat) (day : Int) (Ls : List (List Int)) : Nat := orL 0 (Ls.flatMap fun L => if allB m L = true then nowsB m i day L else [])
theorem orL_or : ∀ (ps : List Nat) (S : Nat), orL S ps = S ||| orL 0 ps := by
  intro ps S
  refine Nat.eq_of_testBit_eq fun i => ?_
  rw [Nat.testBit_or, orL_bit, orL_bit]
  simp
theorem canB_snoc (m : Mb) (i : Nat) (day : Int) (Ls : List (List Int)) (L : List Int) : canB m i day (Ls ++ [L]) = if allB m L = true then canB m i day Ls ||| orL 0 (nowsB m i day L) else canB m i day Ls := by
  unfold canB
  refine Nat.eq_of_testBit_eq fun j => ?_
  split
  · rename_i h
    rw [Nat.testBit_or, orL_bit, orL_bit, orL_bit]
    simp [h]
  · rename_i h
    rw [orL_bit, orL_bit]
    simp [h]
theorem rg_iff {m : Mb} (hv : validM m = true) (L : List Int) (n : Nat) (d : Int) : (d ∈ lvR m n ∧ rgB m L n d = true) ↔ d ∈ rangeI (leavesM m L n (everyN m)).1 (leavesM m L n (everyN m)).2 := by
  have hlen := validM_len hv
  unfold lvR
  rw [mem_rangeI, mem_rangeI]
  unfold leavesM
  rw [lvTo_iff]
  refine and_congr_right fun _ => ?_
  unfold rgB
  rw [List.all_eq_true]
  have key : ∀ s : Int × Int × Int × Int, seenOk m L n d s = true ↔ (s.1 = (n : Int) → s.2.2.1 ≤ d + comesM m L n s.2.1.toNat ∧ d + comesM m L n s.2.1.toNat ≤ s.2.2.2) := fun s => by
    unfold seenOk inB comesM
    rw [inK_add]
    simp only [Bool.or_eq_true, Bool.and_eq_true, decide_eq_true_eq]
    constructor
    · rintro (h | h) e
      · exact absurd e h
      · exact h
    · intro h
      by_cases e : s.1 = (n : Int)
      · exact .inr (h e)
      · exact .inl e
  constructor
  · intro h i hi _ e
    rw [List.getD_eq_getElem?_getD, List.getElem?_eq_getElem hi, Option.getD_some] at e ⊢
    exact (key _).1 (h _ (List.getElem_mem hi)) e
  · intro h s hs
    obtain ⟨i, hi, e⟩ := List.mem_iff_getElem.1 hs
    have := h i hi (hasB_every _ i hi (by omega))
    rw [List.getD_eq_getElem?_getD, List.getElem?_eq_getElem hi, Option.getD_some, e] at this
    exact (key s).2 this
theorem all_iff {m : Mb} (hv : validM m = true) {L : List Int} (hL : L ∈ prodL m.legs) : allB m L = true ↔ L ∈ toldL m (everyN m) := by
  rw [told_iff]
  unfold allB
  rw [List.all_eq_true]
  constructor
  · intro h
    refine ⟨hL, fun n hn => ?_⟩
    obtain ⟨d, hd, hr⟩ := List.any_eq_true.1 (h n (List.mem_range.2 hn))
    have := (rg_iff hv L n d).1 ⟨hd, hr⟩
    rw [mem_rangeI] at this
    omega
  · rintro ⟨_, h⟩ n hn
    have h1 := h n (List.mem_range.1 hn)
    have := (rg_iff hv L n (leavesM m L n (everyN m)).1).2 (by rw [mem_rangeI]; omega)
    exact List.any_eq_true.2 ⟨_, this.1, this.2⟩
theorem can_where {m : Mb} (hv : validM m = true) (i : Nat) (day : Int) : canB m i day (prodL m.legs) = whereN m i day := by
  unfold canB whereN whereTo
  rw [List.take_length]
  refine orL_ext fun p => ?_
  simp only [List.mem_flatMap]
  constructor
  · rintro ⟨L, hL, hp⟩
    split at hp
    · rename_i ha
      refine ⟨L, (all_iff hv hL).1 ha, ?_⟩
      unfold nowsB at hp
      obtain ⟨d, hd, rfl⟩ := List.mem_map.1 hp
      rw [List.mem_filter] at hd
      exact List.mem_map.2 ⟨d, (rg_iff hv L i d).1 hd, rfl⟩
    · cases hp
  · rintro ⟨L, hL, hp⟩
    have hL1 := ((told_iff _ L).1 hL).1
    refine ⟨L, hL1, ?_⟩
    rw [if_pos ((all_iff hv hL1).2 hL)]
    unfold nowsL at hp
    obtain ⟨d, hd, rfl⟩ := List.mem_map.1 hp
    unfold nowsB
    exact List.mem_map.2 ⟨d, List.mem_filter.2 ((rg_iff hv L i d).2 hd), rfl⟩
end Go.Proofs.Yteeinehpneppnaa
/- Plain laws of MobWhere: what is returned. -/
set_option linter.unusedVariables false
set_option linter.unusedSimpArgs false
namespace Go.Proofs.Yteeinehpneppnaa
open Go.RowKit Go.Proofs
attribute [local irreducible] Ord.walk
theorem now_mono {m : Mb} (hv : validM m = true) {L : List Int} (hL : L ∈ prodL m.legs) {s : Nat} (d : Int) {day day' : Int} (hd : day ≤ day') {k : Nat} (hk : s + k ≤ m.places.length) (h1 : 1 ≤ k) (hs : s < m.places.length) : nowTo m L s d day k ≤ nowTo m L s d day' k := by
  have a := (now_max hv hL (s := s) d day k hk h1).2
  have b := (now_max hv hL (s := s) d day' k hk h1).1
  have c := (nowTo_in (m := m) L s d day' k hk hs).1
  rcases a with a | ⟨j, hj, e, a⟩
  · omega
  · have := b j hj (by omega)
    omega
theorem now_shed {m : Mb} (hv : validM m = true) {L D : List Int} (hL : L ∈ prodL m.legs) {i : Nat} (hi : i < m.herds.length) (day : Int) : nowT m i day (L, D) = shedN m ↔ dayAt m L D i (shedN m) ≤ day := by
  have hst := (start_le hv hi).1
  have a := now_max hv hL (s := startN m i) (D.getD i 0) day (m.places.length - startN m i) (by omega) (by omega)
  have c := nowTo_in (m := m) L (startN m i) (D.getD i 0) day (m.places.length - startN m i) (by omega) (by omega)
  unfold nowT nowP dayAt shedN
  simp only
  constructor
  · intro h
    rcases a.2 with b | ⟨j, hj, e, b⟩
    · omega
    · rw [show m.places.length - 1 - startN m i = j by omega]
      exact e
  · intro h
    have := a.1 (m.places.length - 1 - startN m i) (by omega) h
    omega
theorem low_none {s n : Nat} (hs : s < 64) (hn : n < 64) (h : ∀ p, p < 6 → n.testBit p = true → ∃ q, q < 6 ∧ q ≤ p ∧ s.testBit q = true) : bits .and .i64 (n : Int) (bits .and .i64 (s : Int) (-(s : Int)) - 1) = 0 := by
  have key : ∀ s : Nat, s < 64 → ∀ n : Nat, n < 64 → (∀ p, p < 6 → n.testBit p = true → ∃ q, q < 6 ∧ q ≤ p ∧ s.testBit q = true) → bits .and .i64 (n : Int) (bits .and .i64 (s : Int) (-(s : Int)) - 1) = 0 := by decide +kernel
  exact key s hs n hn h
/-- All that MobWhere asks. -/
structure Wf (m : Mb) (i day : Nat) (set nx su pe : Nat) (lo hi e : Int) : Prop where
  w0 : whereP m i day = ((set : Int), e)
  w1 : whereP m i ((day : Int) + 1) = ((nx : Int), e)
  there : thereR m day = ((su : Int), (pe : Int), e)
  comes : comesR m i (shedN m) = ((lo, hi), e)
  case : (e = 10 ∧ canB m i day (prodL m.legs) = 0 ∧ set = 0) ∨ (e = 0 ∧ canB m i day (prodL m.legs) = set ∧ set ≠ 0 ∧ set < 64 ∧ nx < 64 ∧ bits .and .i64 (nx : Int) (bits .and .i64 (set : Int) (-(set : Int)) - 1) = 0 ∧ su < 16 ∧ pe < 16 ∧
    (su.testBit i = true ↔ set = 2 ^ shedN m) ∧ (pe.testBit i = true ↔ set.testBit (shedN m) = true) ∧ (su.testBit i = true ↔ hi ≤ day) ∧ (pe.testBit i = true ↔ lo ≤ day))
theorem wf {m : Mb} (hv : validM m = true) {i day : Nat} (hi : i < m.herds.length) (hd : day ≤ 44) : ∃ set nx su pe lo hi' e, Wf m i day set nx su pe lo hi' e := by
  have hlen := validM_len hv
  have hst := start_le hv hi
  have hin : inB (day : Int) 0 100 = true := by unfold inB; simp; omega
  have hin1 : inB ((day : Int) + 1) 0 100 = true := by unfold inB; simp; omega
  have hbi := herdB_of hi
  have hf := fromB_of (m := m) hi (p := shedN m) (by unfold shedN; rw [hst.2]; omega) (by unfold shedN; omega)
  by_cases hT : TM m = []
  · have hk : knownE m true = 10 := by unfold knownE; rw [if_neg (by simp [hv]), if_neg (by simp), if_pos hT]
    refine ⟨0, 0, 0, 0, 0, 0, 10, ?_, ?_, ?_, ?_, .inl ⟨rfl, ?_, rfl⟩⟩
    · rw [whereP_eq, whereE, hbi, hin, Bool.and_self, if_neg (by omega), hk]; rfl
    · rw [whereP_eq, whereE, hbi, hin1, Bool.and_self, if_neg (by omega), hk]; rfl
    · rw [thereP_eq, thereE, hin, if_neg (by omega), hk]; rfl
    · exact comes_clash hv hf hT
    · rw [can_where hv, where_eq hv hi, hT]; rfl
  · have hk : knownE m true = 0 := by unfold knownE; rw [if_neg (by simp [hv]), if_neg (by simp), if_neg hT]
    have hW : whereP m i day = (((whereN m i day : Nat) : Int), 0) := by
      rw [whereP_eq, whereE, hbi, hin, Bool.and_self, if_pos hk, Int.toNat_natCast, where_eq hv hi]
    have hW1 : whereP m i ((day : Int) + 1) = (((whereN m i ((day : Int) + 1) : Nat) : Int), 0) := by
      rw [whereP_eq, whereE, hbi, hin1, Bool.and_self, if_pos hk, Int.toNat_natCast, where_eq hv hi]
    have hbit : ∀ (d : Int) p, (whereN m i d).testBit p = true ↔ ∃ t ∈ TM m, nowT m i d t = p := fun d p => by
      rw [where_eq hv hi, orL_bit]
      simp [List.mem_map]
    have hlt6 : ∀ (d : Int) t, nowT m i d t < 6 := fun d t => by
      unfold nowT nowP
      have := (nowTo_in (m := m) t.1 (startN m i) (t.2.getD i 0) d (m.places.length - startN m i) (by omega) (by omega)).2
      omega
    have hlt : ∀ d : Int, whereN m i d < 64 := fun d => by
      rw [where_eq hv hi]
      refine orL_lt (by omega) _ fun p hp => ?_
      obtain ⟨t, _, rfl⟩ := List.mem_map.1 hp
      exact hlt6 d t
    obtain ⟨t0, ht0⟩ := List.exists_mem_of_ne_nil _ hT
    have hmem : ∀ t ∈ TM m, t.1 ∈ prodL m.legs := fun t ht => ((mem_TM hv t.1 t.2).1 ht).1
    have hsh : ∀ t ∈ TM m, (nowT m i day t = shedN m ↔ dayAt m t.1 t.2 i (shedN m) ≤ (day : Int)) := fun t ht => now_shed hv (hmem t ht) hi day
    have hsu : (sumSet (allT m day) m.herds.length).testBit i = true ↔ ∀ t ∈ TM m, dayAt m t.1 t.2 i (shedN m) ≤ (day : Int) := by
      rw [sumSet_bit, Bool.and_eq_true]
      unfold allT byB
      rw [List.all_eq_true]
      simp [hi]
    have hpe : (sumSet (anyT m day) m.herds.length).testBit i = true ↔ ∃ t ∈ TM m, dayAt m t.1 t.2 i (shedN m) ≤ (day : Int) := by
      rw [sumSet_bit, Bool.and_eq_true]
      unfold anyT byB
      rw [List.any_eq_true]
      simp [hi]
    have hne := tm_ne hT fun t => dup (dayAt m t.1 t.2 i (shedN m))
    refine ⟨whereN m i day, whereN m i ((day : Int) + 1), sumSet (allT m day) m.herds.length, sumSet (anyT m day) m.herds.length, (daysJ m i (shedN m)).1, (daysJ m i (shedN m)).2, 0, hW, hW1, ?_, comes_ok hv hf hT, .inr ⟨rfl, can_where hv i day, ?_, hlt _, hlt _, ?_, ?_, ?_, ?_, ?_, ?_, ?_⟩⟩
    · rw [thereP_eq, thereE, hin, if_pos hk]
    · intro e
      have := (hbit day (nowT m i day t0)).2 ⟨t0, ht0, rfl⟩
      rw [e] at this
      simp at this
    · refine low_none (hlt _) (hlt _) fun p hp hb => ?_
      obtain ⟨t, ht, rfl⟩ := (hbit _ _).1 hb
      refine ⟨nowT m i day t, hlt6 _ _, ?_, (hbit _ _).2 ⟨t, ht, rfl⟩⟩
      exact now_mono hv (hmem t ht) (s := startN m i) (t.2.getD i 0) (show (day : Int) ≤ (day : Int) + 1 by omega) (k := m.places.length - startN m i) (by omega) (by omega) (by omega)
    · exact Nat.lt_of_lt_of_le (sumSet_lt _ _) (Nat.pow_le_pow_right (n := 2) (by omega) hlen.2.2.2.1)
    · exact Nat.lt_of_lt_of_le (sumSet_lt _ _) (Nat.pow_le_pow_right (n := 2) (by omega) hlen.2.2.2.1)
    · rw [hsu]
      constructor
      · intro h
        refine Nat.eq_of_testBit_eq fun p => ?_
        rw [Nat.testBit_two_pow, Bool.eq_iff_iff, hbit, decide_eq_true_eq]
        constructor
        · rintro ⟨t, ht, rfl⟩
          exact ((hsh t ht).2 (h t ht)).symm
        · rintro rfl
          exact ⟨t0, ht0, (hsh t0 ht0).2 (h t0 ht0)⟩
      · intro h t ht
        refine (hsh t ht).1 ?_
        have := (hbit day (nowT m i day t)).2 ⟨t, ht, rfl⟩
        rw [h, Nat.testBit_two_pow, decide_eq_true_eq] at this
        exact this.symm
    · rw [hpe, hbit]
      constructor
      · rintro ⟨t, ht, h⟩
        exact ⟨t, ht, (hsh t ht).2 h⟩
      · rintro ⟨t, ht, h⟩
        exact ⟨t, ht, (hsh t ht).1 h⟩
    · rw [hsu]
      unfold daysJ
      rw [joinL_snd hne]
      constructor
      · intro h x hx
        obtain ⟨t, ht, rfl⟩ := List.mem_map.1 hx
        exact h t ht
      · intro h t ht
        exact h _ (List.mem_map.2 ⟨t, ht, rfl⟩)
    · rw [hpe]
      unfold daysJ
      rw [joinL_fst hne]
      constructor
      · rintro ⟨t, ht, h⟩
        exact ⟨_, List.mem_map.2 ⟨t, ht, rfl⟩, h⟩
      · rintro ⟨x, hx, h⟩
        obtain ⟨t, ht, rfl⟩ := List.mem_map.1 hx
        exact ⟨t, ht, h⟩
end Go.Proofs.Yteeinehpneppnaa
