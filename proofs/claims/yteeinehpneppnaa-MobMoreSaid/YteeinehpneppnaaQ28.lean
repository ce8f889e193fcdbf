/- Parts of a proof: MpB, MrA, MrP, MoR. -/
import Derived.Test.YteeinehpneppnaaQ19
import Derived.Test.YteeinehpneppnaaQ23
import Derived.Test.YteeinehpneppnaaQ25
import Derived.Test.YteeinehpneppnaaQ27
import Derived.Laws.BitsAllLaws
import Derived.Lib.QuoteBits
import Derived.Test.YteeinehpneppnaaQ17
import Derived.Deep.CutRange
set_option linter.unusedVariables false
set_option linter.unusedSimpArgs false
namespace Go.Proofs.Yteeinehpneppnaa
open Go.RowKit Go.Proofs
attribute [local irreducible] Ord.walk
theorem chosen_day (m : Mb) (L : List Int) (f : Nat → Int) {h : Nat} (hh : h < m.herds.length) (p : Nat) : dayAt m L ((List.range m.herds.length).map f) h p = f h + comesM m L h p := by
  rw [dayAt_eq]
  congr 1
  rw [List.getD_eq_getElem?_getD, List.getElem?_map, List.getElem?_range hh]; rfl
theorem joinTo_iff (l : List (Int × Int)) (d : Int) : ∀ k, ((joinTo l (k + 1)).2 ≤ d ↔ ∀ j, j < k + 1 → (l.getD j (0, 0)).2 ≤ d) ∧ ((joinTo l (k + 1)).1 ≤ d ↔ ∃ j, j < k + 1 ∧ (l.getD j (0, 0)).1 ≤ d)
  | 0 => by
    simp only [joinTo, if_pos]
    refine ⟨⟨fun h j hj => ?_, fun h => h 0 (by omega)⟩, ⟨fun h => ⟨0, by omega, h⟩, ?_⟩⟩
    · obtain rfl : j = 0 := by omega
      exact h
    · rintro ⟨j, hj, h⟩
      obtain rfl : j = 0 := by omega
      exact h
  | k + 1 => by
    have ih := joinTo_iff l d k
    have e : joinTo l (k + 1 + 1) = (min (joinTo l (k + 1)).1 (l.getD (k + 1) (0, 0)).1, max (joinTo l (k + 1)).2 (l.getD (k + 1) (0, 0)).2) := by
      show (let x := l.getD (k + 1) (0, 0); if k + 1 = 0 then x else (min (joinTo l (k + 1)).1 x.1, max (joinTo l (k + 1)).2 x.2)) = _
      simp only
      rw [if_neg (by omega)]
    rw [e]
    simp only
    refine ⟨⟨fun h j hj => ?_, fun h => ?_⟩, ⟨fun h => ?_, ?_⟩⟩
    · rcases Nat.lt_or_ge j (k + 1) with hlt | hge
      · exact ih.1.1 (by omega) j hlt
      · obtain rfl : j = k + 1 := by omega
        omega
    · have h1 := ih.1.2 (fun j hj => h j (by omega))
      have h2 := h (k + 1) (by omega)
      omega
    · rcases Int.le_total (joinTo l (k + 1)).1 (l.getD (k + 1) (0, 0)).1 with hle | hle
      · obtain ⟨j, hj, h1⟩ := ih.2.1 (by omega)
        exact ⟨j, by omega, h1⟩
      · exact ⟨k + 1, by omega, by omega⟩
    · rintro ⟨j, hj, h1⟩
      rcases Nat.lt_or_ge j (k + 1) with hlt | hge
      · have := ih.2.2 ⟨j, hlt, h1⟩
        omega
      · obtain rfl : j = k + 1 := by omega
        omega
theorem joinL_snd {l : List (Int × Int)} (hl : l ≠ []) (d : Int) : (joinL l).2 ≤ d ↔ ∀ x ∈ l, x.2 ≤ d := by
  obtain ⟨k, hk⟩ : ∃ k, l.length = k + 1 := ⟨l.length - 1, by have := List.length_pos_iff.2 hl; omega⟩
  unfold joinL
  rw [hk, (joinTo_iff l d k).1]
  constructor
  · intro h x hx
    obtain ⟨j, hj, rfl⟩ := List.mem_iff_getElem.1 hx
    have := h j (by omega)
    rwa [List.getD_eq_getElem?_getD, List.getElem?_eq_getElem hj, Option.getD_some] at this
  · intro h j hj
    rw [List.getD_eq_getElem?_getD, List.getElem?_eq_getElem (by omega), Option.getD_some]
    exact h _ (List.getElem_mem _)
theorem joinL_fst {l : List (Int × Int)} (hl : l ≠ []) (d : Int) : (joinL l).1 ≤ d ↔ ∃ x ∈ l, x.1 ≤ d := by
  obtain ⟨k, hk⟩ : ∃ k, l.length = k + 1 := ⟨l.length - 1, by have := List.length_pos_iff.2 hl; omega⟩
  unfold joinL
  rw [hk, (joinTo_iff l d k).2]
  constructor
  · rintro ⟨j, hj, h⟩
    rw [List.getD_eq_getElem?_getD, List.getElem?_eq_getElem (by omega), Option.getD_some] at h
    exact ⟨_, List.getElem_mem _, h⟩
  · rintro ⟨x, hx, h⟩
    obtain ⟨j, hj, rfl⟩ := List.mem_iff_getElem.1 hx
    refine ⟨j, by omega, ?_⟩
    rwa [List.getD_eq_getElem?_getD, List.getElem?_eq_getElem hj, Option.getD_some]
theorem told_ne {m : Mb} (hv : validM m = true) (hT : TM m ≠ []) : toldL m (everyN m) ≠ [] := fun e => hT ((none_iff hv _).2 e)
theorem by_all {m : Mb} (hv : validM m = true) (hT : TM m ≠ []) (d : Int) {h : Nat} (hh : h < m.herds.length) : decide ((thereJ m h).2 ≤ d) = allT m d h := by
  have hne : ((toldL m (everyN m)).map fun L => comeS m L h (shedN m)) ≠ [] := by simpa using told_ne hv hT
  rw [Bool.eq_iff_iff, decide_eq_true_eq]
  unfold thereJ allT byB
  rw [joinL_snd hne, List.all_eq_true]
  constructor
  · rintro h1 ⟨L, D⟩ ht
    have := h1 _ (List.mem_map.2 ⟨L, told_of hv ht, rfl⟩)
    have h2 := day_le hv ht hh (shedN m)
    rw [decide_eq_true_eq]
    simp only
    omega
  · intro h1 x hx
    obtain ⟨L, hL, rfl⟩ := List.mem_map.1 hx
    have := h1 _ (truth_of hv hL (fun h => (leavesM m L h (everyN m)).2) (fun h hh => by have := ((told_iff _ L).1 hL).2 h hh; (try simp only); omega))
    rw [decide_eq_true_eq] at this
    simp only at this
    rw [chosen_day m L _ hh] at this
    exact this
theorem by_any {m : Mb} (hv : validM m = true) (hT : TM m ≠ []) (d : Int) {h : Nat} (hh : h < m.herds.length) : decide ((thereJ m h).1 ≤ d) = anyT m d h := by
  have hne : ((toldL m (everyN m)).map fun L => comeS m L h (shedN m)) ≠ [] := by simpa using told_ne hv hT
  rw [Bool.eq_iff_iff, decide_eq_true_eq]
  unfold thereJ anyT byB
  rw [joinL_fst hne, List.any_eq_true]
  constructor
  · rintro ⟨x, hx, h1⟩
    obtain ⟨L, hL, rfl⟩ := List.mem_map.1 hx
    refine ⟨_, truth_of hv hL (fun h => (leavesM m L h (everyN m)).1) (fun h hh => by have := ((told_iff _ L).1 hL).2 h hh; (try simp only); omega), ?_⟩
    rw [decide_eq_true_eq]
    simp only
    rw [chosen_day m L _ hh]
    exact h1
  · rintro ⟨⟨L, D⟩, ht, h1⟩
    refine ⟨_, List.mem_map.2 ⟨L, told_of hv ht, rfl⟩, ?_⟩
    rw [decide_eq_true_eq] at h1
    simp only at h1
    have h2 := day_le hv ht hh (shedN m)
    omega
theorem setN_eq {f g : Nat → Bool} : ∀ k, (∀ i, i < k → f i = g i) → setN f k = sumSet g k
  | 0, _ => rfl
  | k + 1, h => by
    simp only [setN, sumSet]
    rw [setN_eq k (fun i hi => h i (by omega)), h k (by omega)]
    split <;> simp
theorem thereP_eq (m : Mb) (d : Int) : thereR m d = thereE m d := by
  unfold thereR thereE
  rw [knownE_eq]
  by_cases hk : knownP m (inB d 0 100) = 0
  · rw [if_pos hk, if_pos hk]
    obtain ⟨hv, -, hT⟩ := known_yes (by rw [knownE_eq]; exact hk)
    unfold sureN mayN
    rw [setN_eq m.herds.length (fun i hi => by_all hv hT d hi), setN_eq m.herds.length (fun i hi => by_any hv hT d hi)]
  · rw [if_neg hk, if_neg hk]
theorem hasB_every (n i : Nat) (hi : i < n) (hn : n ≤ 5) : hasB (2 ^ n - 1) i = true := by
  rcases (show n = 1 ∨ n = 2 ∨ n = 3 ∨ n = 4 ∨ n = 5 by omega) with rfl | rfl | rfl | rfl | rfl
  all_goals
    rcases (show i = 0 ∨ i = 1 ∨ i = 2 ∨ i = 3 ∨ i = 4 by omega) with rfl | rfl | rfl | rfl | rfl <;> first | (exfalso; omega) | decide
theorem truths_sub {m : Mb} (hv : validM m = true) (set : Nat) (h : TM m ≠ []) : truthsM m set ≠ [] := by
  intro e
  obtain ⟨⟨L, D⟩, ht⟩ := List.exists_mem_of_ne_nil _ h
  have h1 := (truth_iff hv (everyN m) L D).1 ht
  have h2 := (right_iff hv L D (everyN m)).2 h1.2
  have hlen := validM_len hv
  have h3 : rightM m L D set = true := (rightM_iff m L D set).2 fun i hi _ => (rightM_iff m L D (everyN m)).1 h2.2 i hi (hasB_every _ i hi (by omega))
  have h4 : (L, D) ∈ truthsM m set := (truth_iff hv set L D).2 ⟨h1.1, (right_iff hv L D set).1 ⟨h2.1, h3⟩⟩
  rw [e] at h4
  simp at h4
theorem bestTo_eq (m : Mb) : ∀ k, bestTo m k = bestF (fun s => (truthsM m s).isEmpty) (everyN m) k
  | 0 => rfl
  | k + 1 => by
    simp only [bestTo, bestF]
    rw [bestTo_eq m k]
    have : ((truthsM m k).length = 0) ↔ ((truthsM m k).isEmpty = true) := by rw [List.isEmpty_iff, List.length_eq_zero_iff]
    simp only [this]
theorem clashP_eq (m : Mb) : clashP m = clashR m := by
  unfold clashP clashR
  cases hv : validM m
  · rfl
  · have hlen := validM_len hv
    rw [if_pos rfl, if_neg (by simp)]
    unfold clashV clashF
    have e : (fun x => !canM m x) = fun s => (truthsM m s).isEmpty := funext fun x => by rw [can_eq hv]; simp
    rw [e]
    have hE : everyN m = 2 ^ m.seen.length - 1 := rfl
    have hp := Nat.two_pow_pos m.seen.length
    by_cases hT : TM m = []
    · rw [if_pos hT, clash_find _ m.seen.length (by omega) (by show (truthsM m (2 ^ m.seen.length - 1)).isEmpty = true; rw [show truthsM m (2 ^ m.seen.length - 1) = TM m from rfl, hT]; rfl)]
      rw [bestTo_eq, hE, show 2 ^ m.seen.length - 1 + 1 = 2 ^ m.seen.length by omega]
    · rw [if_neg hT]
      have : (Stab.bySize m.seen.length).find? (fun s => (truthsM m s).isEmpty) = none := by
        rw [List.find?_eq_none]
        intro x _
        have := truths_sub hv x hT
        simpa [List.isEmpty_iff] using this
      rw [this]
end Go.Proofs.Yteeinehpneppnaa
set_option linter.unusedVariables false
set_option linter.unusedSimpArgs false
namespace Go.Proofs.Yteeinehpneppnaa
open Go.RowKit Go.Proofs
attribute [local irreducible] Ord.walk
open Go.Lib (wrap_i64_small)
theorem andNot_nat (x y : Nat) (hx : x < 2 ^ 62) (hy : y < 2 ^ 62) : x &&& (2 ^ 64 - 1 - y) = x ^^^ (x &&& y) := by
  apply Nat.eq_of_testBit_eq
  intro i
  rw [Nat.testBit_and, Nat.testBit_xor, Nat.testBit_and]
  by_cases hi : i < 62
  · have : (2 ^ 64 - 1 - y).testBit i = !y.testBit i := by
      have h := Nat.testBit_two_pow_sub_succ (x := y) (n := 64) (by omega) i
      rw [show 2 ^ 64 - 1 - y = 2 ^ 64 - (y + 1) by omega, h]
      simp; omega
    rw [this]
    cases x.testBit i <;> cases y.testBit i <;> rfl
  · have : x.testBit i = false := Nat.testBit_lt_two_pow (Nat.lt_of_lt_of_le hx (Nat.pow_le_pow_right (by omega) (by omega)))
    rw [this]; simp
theorem andNot_i64 (x y : Nat) (hx : x < 4611686018427387904) (hy : y < 4611686018427387904) : bits .andNot .i64 (x : Int) (y : Int) = ((x ^^^ (x &&& y) : Nat) : Int) := by
  show IntKind.i64.wrap ((BitVec.ofInt 64 (x : Int) &&& ~~~BitVec.ofInt 64 (y : Int)).toNat : Int) = _
  rw [BitVec.toNat_and, BitVec.toNat_not, ofInt_u64 x (by omega), ofInt_u64 y (by omega), andNot_nat x y hx hy]
  have h1 : x ^^^ (x &&& y) < 2 ^ 62 := Nat.xor_lt_two_pow hx (Nat.and_lt_two_pow _ hy)
  exact wrap_i64_small _ (by have : (2:Nat) ^ 62 = 4611686018427387904 := rfl; omega)
theorem sz_less : ∀ i, i < 8 → ∀ x, x < 256 → hasB x i = true → sz (x ^^^ (x &&& 2 ^ i)) < sz x := by decide +kernel
theorem xor_less : ∀ i, i < 8 → ∀ x, x < 256 → x ^^^ (x &&& 2 ^ i) ≤ x := by decide +kernel
end Go.Proofs.Yteeinehpneppnaa
set_option linter.unusedVariables false
set_option linter.unusedSimpArgs false
namespace Go.Proofs.Yteeinehpneppnaa
open Go.RowKit Go.Proofs
attribute [local irreducible] Ord.walk
theorem inK_sub (m : Mb) (S : List (Int × Int × Int × Int)) (L : List Int) (s : Nat) (d : Int) : ∀ k, inK { m with seen := S } L s d k = inK m L s d k
  | 0 => rfl
  | k + 1 => by simp only [inK]; rw [inK_sub m S L s d k]; rfl
theorem truths_zero {m : Mb} (hv : validM m = true) : (truthsM m 0).isEmpty = false := by
  have hne : toldL m 0 ≠ [] := by
    have hL : m.legs.map (·.1) ∈ prodL m.legs := (mem_prodL _ _).2 ⟨by simp, fun i hi => ⟨(m.legs[i]).1, by simp [hi], Int.le_refl _, by
      have := validM_leg hv hi
      rw [List.getD_eq_getElem?_getD, List.getElem?_eq_getElem hi, Option.getD_some] at this
      omega⟩⟩
    have : m.legs.map (·.1) ∈ toldL m 0 := (told_iff 0 _).2 ⟨hL, fun h hh => by
      have hs := validM_herd hv hh
      have := (lvTo_iff m (m.legs.map (·.1)) h 0 (m.herds.getD h (0, 0, 0, 0)).2.1 m.seen.length).2 ⟨⟨Int.le_refl _, by omega⟩, fun i hi hb => absurd hb (by unfold hasB; simp)⟩
      show (lvTo m _ h 0 m.seen.length).1 ≤ (lvTo m _ h 0 m.seen.length).2
      omega⟩
    intro e
    rw [e] at this
    simp at this
  cases h : (truthsM m 0).isEmpty
  · rfl
  · rw [List.isEmpty_iff, none_iff hv] at h
    exact absurd h hne
/-- What is returned of what was seen. -/
structure Cf (m : Mb) (x e : Int) : Prop where
  clash : clashP m = (x, e)
  case : (e = 4 ∧ x = 0 ∧ (truthsM m (2 ^ m.seen.length - 1)).isEmpty = false) ∨ (∃ q : Nat, e = 0 ∧ x = q ∧ 1 ≤ q ∧ q < 2 ^ m.seen.length ∧ (truthsM m (2 ^ m.seen.length - 1)).isEmpty = true ∧ (truthsM m q).isEmpty = true ∧
    (∀ i, i < m.seen.length → hasB q i = true → (truthsM m (q ^^^ (q &&& 2 ^ i))).isEmpty = false) ∧ ∀ y, y < 2 ^ m.seen.length → (truthsM m y).isEmpty = true → sz q < sz y ∨ (sz q = sz y ∧ q ≤ y))
theorem cf {m : Mb} (hv : validM m = true) : ∃ x e, Cf m x e := by
  have hlen := validM_len hv
  have h8 : m.seen.length ≤ 8 := by omega
  have hp8 : 2 ^ m.seen.length ≤ 2 ^ 8 := Nat.pow_le_pow_right (by omega) h8
  have e8 : (2 : Nat) ^ 8 = 256 := rfl
  have hp0 := Nat.two_pow_pos m.seen.length
  by_cases ht : TM m = []
  · obtain ⟨h1, h2, h3⟩ := bestF_prop (fun s => (truthsM m s).isEmpty) m.seen.length h8 (by show (TM m).isEmpty = true; rw [ht]; rfl) (2 ^ m.seen.length) (Nat.le_refl _)
    have hcl : clashP m = (((bestF (fun s => (truthsM m s).isEmpty) (2 ^ m.seen.length - 1) (2 ^ m.seen.length) : Nat) : Int), 0) := by
      rw [clashP_eq]
      unfold clashR
      rw [if_neg (by rw [hv]; simp), if_pos ht, bestTo_eq, show everyN m = 2 ^ m.seen.length - 1 from rfl, show 2 ^ m.seen.length - 1 + 1 = 2 ^ m.seen.length by omega]
    generalize bestF (fun s => (truthsM m s).isEmpty) (2 ^ m.seen.length - 1) (2 ^ m.seen.length) = q at *
    refine ⟨(q : Nat), 0, ⟨hcl, .inr ⟨q, rfl, rfl, ?_, h2, by show (TM m).isEmpty = true; rw [ht]; rfl, h1, fun i hi hb => ?_, fun y hy hf => h3 y hy hf⟩⟩⟩
    · rcases Nat.eq_zero_or_pos q with rfl | h
      · rw [truths_zero hv] at h1; cases h1
      · exact h
    · have hl := sz_less i (by omega) q (by omega) hb
      have hx := xor_less i (by omega) q (by omega)
      cases hf : (truthsM m (q ^^^ (q &&& 2 ^ i))).isEmpty
      · rfl
      · have h4 := h3 _ (show _ < 2 ^ m.seen.length by omega) hf
        omega
  · refine ⟨0, 4, ⟨by rw [clashP_eq]; unfold clashR; rw [if_neg (by rw [hv]; simp), if_neg ht], .inl ⟨rfl, rfl, ?_⟩⟩⟩
    show (TM m).isEmpty = false
    cases h : TM m with
    | nil => exact absurd h ht
    | cons _ _ => rfl
end Go.Proofs.Yteeinehpneppnaa
set_option linter.unusedVariables false
set_option linter.unusedSimpArgs false
namespace Go.Proofs.Yteeinehpneppnaa
open Go.RowKit Go.Proofs
attribute [local irreducible] Ord.walk
set_option maxHeartbeats 40000000 in
set_option maxRecDepth 100000 in
theorem m_Safe_stop {m : Mb} {A : Ma} (i : Int) (w : World) (hl : Mlen m) (hm : MbAt w m A) (hk : validM m = false ∨ herdB m i = false) :
    Calls Try.prog 25 #[mv m A, .int .i64 i] w (Gives2 (.int .i64 0) (.int .i64 (knownP m (herdB m i))) w) := by
  have hmf := hmf_mob
  have HO : Hid (∀ W, Below w.heap.size w W → Blk W (w.heap.size + 1) #[.int .i64 i] 3 → Calls Try.prog 42 #[mv m A, .func (.func 86) #[] #[.pointer (some ⟨w.heap.size + 1, 0, none⟩)]] W (Stops (knownP m (herdB m i)) W)) := fun W hb b1 =>
    (m_open m A 86 #[.pointer (some ⟨w.heap.size + 1, 0, none⟩)] (herdB m i) W hl (hm.below hb) (fun args W => Try.call86 args W) (fun hv W' wp mb pa pc hw hb' => m_herdC 86 (.inr rfl) _ i W' hl hw (b1.below hb' b1.lt))).mono fun e w' h => open_stop h hk
  generalize knownP m (herdB m i) = E at *
  clear hl hm hk
  unfold mv mcells at *
  obtain ⟨W5, hW5⟩ : ∃ W5, (((w.alloc (.cells #[.slice A.pa m.places.length A.pc, .slice A.la m.legs.length A.lc, .slice A.ha m.herds.length A.hc, .slice A.sa m.seen.length A.sc] 27)).alloc (.cells #[.int .i64 i] 3)).alloc (.cells #[.int .i64 0] 30)) = W5 := ⟨_, rfl⟩
  have hB5 : Below w.heap.size w W5 := by rw [← hW5]; (repeat (first | assumption | exact Below.refl _ _ | refine Below.drew ?_ | refine Below.alloc ?_ (by first | omega | (simp; done) | (simp; omega)) _ | refine Below.setCell ?_ (by first | omega | (simp; done) | (simp; omega)) _ | refine Below.trans ?_ (Below.mono (by assumption) (by first | omega | (simp; done) | (simp; omega)))))
  have b1 : Blk W5 (w.heap.size + 1) #[.int .i64 i] 3 := by rw [← hW5]; exact ((Blk.new' _ _ _ _ (by simp)).alloc _)
  have b4 : Blk W5 (w.heap.size + 2) #[.int .i64 0] 30 := by rw [← hW5]; exact Blk.new' _ _ _ _ (by simp)
  have bm : Blk W5 w.heap.size #[.slice A.pa m.places.length A.pc, .slice A.la m.legs.length A.lc, .slice A.ha m.herds.length A.hc, .slice A.sa m.seen.length A.sc] 27 := by rw [← hW5]; exact (((Blk.new _ _ _).alloc _).alloc _)
  have hs5 : W5.heap.size = w.heap.size + 3 := by rw [← hW5]; simp
  have hs5a : W5.heap.size ≤ w.heap.size + 3 ∧ w.heap.size + 3 ≤ W5.heap.size := by omega
  clear hs5
  refine callsIn_wide.1 (callsIn_of_wp_marks (F := Fence.wide) (n := 0) Try.func25 rfl trivial (wpIn_wide.2 ?_) rfl)
  simp only [Try.ntmps25, List.size_toArray, List.length_cons, List.length_nil, Nat.reduceAdd, Nat.reduceSub, Array.replicate_succ, Array.replicate_zero, List.push_toArray, List.append_toArray, List.nil_append, List.cons_append]
  go_wp2_with fail
  clear hW5
  have b1d := b1.drew
  have bmd := bm.drew
  have r1 := b1.cell
  have HO5 := Lib.hid (HO.out W5.drew hB5.drew b1.drew)
  refine wp_mono (Q := PanAt [dcl 85 (w.heap.size + 2)] 4 5 (.int .i64 0) (.pointer (some ⟨w.heap.size + 2, 0, none⟩)) E (fun W => Below w.heap.size w W ∧ Blk W (w.heap.size + 2) #[.int .i64 0] 30)) ?_ ?_
  · refine Ord.wp_regionTD 4 (.fork2 [(0, 1), (1, 1), (4, 1)] 2 (.fork2 [] 3 (.fork2 [] 5 (.leaf [(6, 2), (7, 2)]) 6 (.leaf [(5, 2), (7, 2)])) 6 (.leaf [(3, 2), (5, 2), (7, 2)])) 6 (.leaf [(2, 2), (3, 2), (5, 2), (7, 2)])) (fun W => Blk W (w.heap.size + 1) #[.int .i64 i] 3 ∧ Blk W w.heap.size #[.slice A.pa m.places.length A.pc, .slice A.la m.legs.length A.lc, .slice A.ha m.herds.length A.hc, .slice A.sa m.seen.length A.sc] 27) (by kernel_rfl) (by kernel_rfl) ?_ ⟨b1.drew, bm.drew⟩ ?_
    · rintro c ⟨tm, ds⟩ d v u ⟨o, ho, rfl⟩ h
      have hd : o.dst = some 8 ∨ o.dst = some 9 ∨ o.dst = some 10 ∨ o.dst = some 11 ∨ o.dst = some 12 ∨ o.dst = some 13 ∨ o.dst = some 6 ∨ o.dst = none := by
        simp only [List.mem_toArray, List.mem_cons, List.not_mem_nil, or_false] at ho
        rcases ho with rfl | rfl | rfl | rfl | rfl | rfl | rfl | rfl <;> simp
      unfold PanAt at *
      rcases hd with e | e | e | e | e | e | e | e <;> rw [e] at h <;> simpa [Act.put, Array.getD_eq_getD_getElem?] using h
    have hI5 := And.intro b1d bmd
    have hI5a := And.intro (b1.alloc (.cells #[.int .i64 0, .int .i64 0] 39)).drew (bm.alloc (.cells #[.int .i64 0, .int .i64 0] 39)).drew
    go_wp2_with (first
      | ((with_reducible refine Ord.at_wild ?_); refine Ord.wild_load (ad := ⟨w.heap.size, 0, none⟩) (.agg #[.slice A.pa m.places.length A.pc, .slice A.la m.legs.length A.lc, .slice A.ha m.herds.length A.hc, .slice A.sa m.seen.length A.sc]) rfl rfl ?_ ?_; (focus (intro W hW; exact loadVar_blk agg_mob hW.2 rfl)); intro K hK)
      | (go_at_call 42; refine (HO.out _ (by (repeat (first | assumption | exact Below.refl _ _ | refine Below.drew ?_ | refine Below.alloc ?_ (by first | omega | (simp; done) | (simp; omega)) _ | refine Below.setCell ?_ (by first | omega | (simp; done) | (simp; omega)) _ | refine Below.trans ?_ (Below.mono (by assumption) (by first | omega | (simp; done) | (simp; omega)))))) (by first | exact b1d | exact (b1.alloc _).drew)).mono ?_; rintro e w6 ⟨rfl, hb6⟩; exact ⟨rfl, rfl, rfl, rfl, by (repeat (first | assumption | exact Below.refl _ _ | refine Below.drew ?_ | refine Below.alloc ?_ (by first | omega | (simp; done) | (simp; omega)) _ | refine Below.setCell ?_ (by first | omega | (simp; done) | (simp; omega)) _ | refine Below.trans ?_ (Below.mono (by assumption) (by first | omega | (simp; done) | (simp; omega))))), (by first | exact b4.drew.below hb6 b4.lt | exact (b4.alloc _).drew.below hb6 (b4.alloc _).drew.lt)⟩)
      | ((with_reducible refine Ord.at_wild ?_); refine Ord.walk_wild_as rfl (.func (.func 86) #[] #[.pointer (some ⟨w.heap.size + 1, 0, none⟩)]) ?_ ?_; (focus (intro W hW; simp [go_sem, Ord.yields, Ord.yieldUpon, hmf]; done)); intro K hK)
      | ((with_reducible refine Ord.at_wild ?_); refine Ord.wild_load (ad := ⟨w.heap.size + 1, 0, none⟩) (.int .i64 i) rfl rfl ?_ ?_; (focus (intro W hW; have r := hW.1.cell; simp [go_sem, r]; done)); intro K hK)
      | with_reducible refine Ord.top_two ?_ | with_reducible refine Ord.top_three ?_ | with_reducible refine Ord.at_two ?_ ?_ | with_reducible refine Ord.at_three ?_ ?_ ?_ | with_reducible refine Ord.tree_leaf ?_ | with_reducible refine Ord.tree_two ?_ | ((with_reducible refine Ord.at_calm ?_); refine Ord.calm_skip rfl ?_ (fun K hK => ?_); (focus (simp [Region.wanted, yielded]; done))) | with_reducible refine Ord.walk_calm rfl rfl (fun K hK => ?_) | ((with_reducible refine Ord.at_wild ?_); refine Ord.wild_fieldAddr rfl rfl (fun W => by simp [go_sem]; rfl) (fun K hK => ?_)) | ((with_reducible refine Ord.at_wild ?_); refine Ord.wild_move rfl rfl (fun K hK => ?_)) | ((with_reducible refine Ord.at_wild ?_); refine Ord.wild_nilCheck rfl rfl (fun K hK => ?_)) | with_reducible refine Ord.walk_eff rfl (by first | (simp; done) | assumption | (go_simp; done) | (repeat (first | assumption | exact Below.refl _ _ | refine Below.drew ?_ | refine Below.alloc ?_ (by first | omega | (simp; done) | (simp; omega)) _ | refine Below.setCell ?_ (by first | omega | (simp; done) | (simp; omega)) _ | refine Below.trans ?_ (Below.mono (by assumption) (by first | omega | (simp; done) | (simp; omega)))))) (fun K hK => ?_) | with_reducible refine Ord.at_fork ?_ ?_ | with_reducible refine Ord.walk_nil ?_ | (with_reducible refine Ord.next_of (by first | (simp; done) | (go_simp; done) | (repeat (first | assumption | exact Below.refl _ _ | refine Below.drew ?_ | refine Below.alloc ?_ (by first | omega | (simp; done) | (simp; omega)) _ | refine Below.setCell ?_ (by first | omega | (simp; done) | (simp; omega)) _ | refine Below.trans ?_ (Below.mono (by assumption) (by first | omega | (simp; done) | (simp; omega)))))) (fun _ => ?_)))
  rintro e ⟨tm, ds⟩ w8 ⟨rfl, rfl, h4, h5, hb8, he8⟩
  refine post_catch (v := .tuple #[.int .i64 0, .int .i64 E]) catch_Safe (fun W => by simp [go_sem]) rfl he8 fun w' hl hb => ⟨?_, rfl, below_lets hb8 hl (Nat.le_refl _) (fun _ _ _ => by omega)⟩
  simp only [Array.getD_eq_getD_getElem?] at h4 h5
  have r4 := hb.cell
  simp [results, Try.results25, go_sem, h4, h5, r4]
set_option maxHeartbeats 40000000 in
set_option maxRecDepth 100000 in
theorem m_Safe_clash {m : Mb} {A : Ma} (i : Int) (w : World) (hl : Mlen m) (hm : MbAt w m A) (hv : validM m = true) (hi : herdB m i = true) (hk : knownM m = false) :
    Calls Try.prog 25 #[mv m A, .int .i64 i] w (Gives2 (.int .i64 0) (.int .i64 10) w) := by
  have hmf := hmf_mob
  have HO : Hid (∀ W, Below w.heap.size w W → Blk W (w.heap.size + 1) #[.int .i64 i] 3 → Calls Try.prog 42 #[mv m A, .func (.func 86) #[] #[.pointer (some ⟨w.heap.size + 1, 0, none⟩)]] W (fun e w' => ∃ wp mb pa pc, e = .returned (.pointer (some ⟨wp, 0, none⟩)) ∧ Opened w' wp m A pa pc mb ∧ Below W.heap.size W w' ∧ W.heap.size ≤ wp ∧ W.heap.size ≤ mb)) := fun W hb b1 =>
    (m_open m A 86 #[.pointer (some ⟨w.heap.size + 1, 0, none⟩)] (herdB m i) W hl (hm.below hb) (fun args W => Try.call86 args W) (fun hv W' wp mb pa pc hw hb' => m_herdC 86 (.inr rfl) _ i W' hl hw (b1.below hb' b1.lt))).mono fun e w' h => open_ok h hv hi
  clear hl hm
  unfold mv mcells at *
  obtain ⟨W5, hW5⟩ : ∃ W5, (((w.alloc (.cells #[.slice A.pa m.places.length A.pc, .slice A.la m.legs.length A.lc, .slice A.ha m.herds.length A.hc, .slice A.sa m.seen.length A.sc] 27)).alloc (.cells #[.int .i64 i] 3)).alloc (.cells #[.int .i64 0] 30)) = W5 := ⟨_, rfl⟩
  have hB5 : Below w.heap.size w W5 := by rw [← hW5]; (repeat (first | assumption | exact Below.refl _ _ | refine Below.drew ?_ | refine Below.alloc ?_ (by first | omega | (simp; done) | (simp; omega)) _ | refine Below.setCell ?_ (by first | omega | (simp; done) | (simp; omega)) _ | refine Below.trans ?_ (Below.mono (by assumption) (by first | omega | (simp; done) | (simp; omega)))))
  have b1 : Blk W5 (w.heap.size + 1) #[.int .i64 i] 3 := by rw [← hW5]; exact ((Blk.new' _ _ _ _ (by simp)).alloc _)
  have b4 : Blk W5 (w.heap.size + 2) #[.int .i64 0] 30 := by rw [← hW5]; exact Blk.new' _ _ _ _ (by simp)
  have bm : Blk W5 w.heap.size #[.slice A.pa m.places.length A.pc, .slice A.la m.legs.length A.lc, .slice A.ha m.herds.length A.hc, .slice A.sa m.seen.length A.sc] 27 := by rw [← hW5]; exact (((Blk.new _ _ _).alloc _).alloc _)
  have hs5 : W5.heap.size = w.heap.size + 3 := by rw [← hW5]; simp
  have hs5a : W5.heap.size ≤ w.heap.size + 3 ∧ w.heap.size + 3 ≤ W5.heap.size := by omega
  clear hs5
  refine callsIn_wide.1 (callsIn_of_wp_marks (F := Fence.wide) (n := 0) Try.func25 rfl trivial (wpIn_wide.2 ?_) rfl)
  simp only [Try.ntmps25, List.size_toArray, List.length_cons, List.length_nil, Nat.reduceAdd, Nat.reduceSub, Array.replicate_succ, Array.replicate_zero, List.push_toArray, List.append_toArray, List.nil_append, List.cons_append]
  go_wp2_with fail
  clear hW5
  have b1d := b1.drew
  have bmd := bm.drew
  have r1 := b1.cell
  have HO5 := Lib.hid (HO.out W5.drew hB5.drew b1.drew)
  refine wp_mono (Q := PanAt [dcl 85 (w.heap.size + 2)] 4 5 (.int .i64 0) (.pointer (some ⟨w.heap.size + 2, 0, none⟩)) 10 (fun W => Below w.heap.size w W ∧ Blk W (w.heap.size + 2) #[.int .i64 0] 30)) ?_ ?_
  · refine Ord.wp_regionTD 4 (.fork2 [(0, 1), (1, 1), (4, 1)] 2 (.fork2 [] 3 (.fork2 [] 5 (.leaf [(6, 2), (7, 2)]) 6 (.leaf [(5, 2), (7, 2)])) 6 (.leaf [(3, 2), (5, 2), (7, 2)])) 6 (.leaf [(2, 2), (3, 2), (5, 2), (7, 2)])) (fun W => Blk W (w.heap.size + 1) #[.int .i64 i] 3 ∧ Blk W w.heap.size #[.slice A.pa m.places.length A.pc, .slice A.la m.legs.length A.lc, .slice A.ha m.herds.length A.hc, .slice A.sa m.seen.length A.sc] 27) (by kernel_rfl) (by kernel_rfl) ?_ ⟨b1.drew, bm.drew⟩ ?_
    · rintro c ⟨tm, ds⟩ d v u ⟨o, ho, rfl⟩ h
      have hd : o.dst = some 8 ∨ o.dst = some 9 ∨ o.dst = some 10 ∨ o.dst = some 11 ∨ o.dst = some 12 ∨ o.dst = some 13 ∨ o.dst = some 6 ∨ o.dst = none := by
        simp only [List.mem_toArray, List.mem_cons, List.not_mem_nil, or_false] at ho
        rcases ho with rfl | rfl | rfl | rfl | rfl | rfl | rfl | rfl <;> simp
      unfold PanAt at *
      rcases hd with e | e | e | e | e | e | e | e <;> rw [e] at h <;> simpa [Act.put, Array.getD_eq_getD_getElem?] using h
    have hI5 := And.intro b1d bmd
    have hI5a := And.intro (b1.alloc (.cells #[.int .i64 0, .int .i64 0] 39)).drew (bm.alloc (.cells #[.int .i64 0, .int .i64 0] 39)).drew
    go_wp2_with (first
      | ((with_reducible refine Ord.at_wild ?_); refine Ord.wild_load (ad := ⟨w.heap.size, 0, none⟩) (.agg #[.slice A.pa m.places.length A.pc, .slice A.la m.legs.length A.lc, .slice A.ha m.herds.length A.hc, .slice A.sa m.seen.length A.sc]) rfl rfl ?_ ?_; (focus (intro W hW; exact loadVar_blk agg_mob hW.2 rfl)); intro K hK)
      | (go_at_call 42; refine (HO.out _ (by (repeat (first | assumption | exact Below.refl _ _ | refine Below.drew ?_ | refine Below.alloc ?_ (by first | omega | (simp; done) | (simp; omega)) _ | refine Below.setCell ?_ (by first | omega | (simp; done) | (simp; omega)) _ | refine Below.trans ?_ (Below.mono (by assumption) (by first | omega | (simp; done) | (simp; omega)))))) (by first | exact b1d | exact (b1.alloc _).drew)).mono ?_; rintro e w6 ⟨wp, mb, pa, pc, rfl, hOp, hb6, hwp, hmb⟩; (try simp only [World.size_drew, World.size_alloc] at hwp hmb); have hs6 := hb6.size; (try simp only [World.size_drew, World.size_alloc] at hs6); have hBw6 : Below w.heap.size w w6 := (by (repeat (first | assumption | exact Below.refl _ _ | refine Below.drew ?_ | refine Below.alloc ?_ (by first | omega | (simp; done) | (simp; omega)) _ | refine Below.setCell ?_ (by first | omega | (simp; done) | (simp; omega)) _ | refine Below.trans ?_ (Below.mono (by assumption) (by first | omega | (simp; done) | (simp; omega)))))); have b16 : Blk w6 (w.heap.size + 1) _ _ := (by first | exact b1d.below hb6 b1d.lt | exact (b1.alloc _).drew.below hb6 (b1.alloc _).drew.lt); have bm6 : Blk w6 w.heap.size _ _ := (by first | exact bmd.below hb6 bmd.lt | exact (bm.alloc _).drew.below hb6 (bm.alloc _).drew.lt); have b46 : Blk w6 (w.heap.size + 2) _ _ := (by first | exact b4.drew.below hb6 b4.lt | exact (b4.alloc _).drew.below hb6 (b4.alloc _).drew.lt); have hI6 := And.intro b16 bm6; have hI6a := And.intro (b16.alloc (.cells #[.int .i64 0, .int .i64 0] 39)) (bm6.alloc (.cells #[.int .i64 0, .int .i64 0] 39)); have hW6 : Way w6 mb m w6 := ⟨hOp.kept, Lets.refl _ _⟩; have hW6a := hW6.below ((Below.refl w6.heap.size w6).alloc (Nat.le_refl _) (.cells #[.int .i64 0, .int .i64 0] 39)) hOp.mb_lt; have HKn := Lib.hid (fun W hw => m_known_no hv hOp W hw hk))
      | (go_at_call 45; refine (HKn.out _ (by assumption)).mono ?_; rintro e w7 ⟨rfl, hW7, hl7⟩; exact ⟨rfl, rfl, rfl, rfl, below_lets (by (repeat (first | assumption | exact Below.refl _ _ | refine Below.drew ?_ | refine Below.alloc ?_ (by first | omega | (simp; done) | (simp; omega)) _ | refine Below.setCell ?_ (by first | omega | (simp; done) | (simp; omega)) _ | refine Below.trans ?_ (Below.mono (by assumption) (by first | omega | (simp; done) | (simp; omega))))) : Below w.heap.size w _) hl7 (Nat.le_refl _) (fun _ _ _ => by omega), hl7.blk (by first | exact b46 | exact b46.alloc _) (by omega)⟩)
      | ((with_reducible refine Ord.at_wild ?_); refine Ord.walk_wild_as rfl (.func (.func 86) #[] #[.pointer (some ⟨w.heap.size + 1, 0, none⟩)]) ?_ ?_; (focus (intro W hW; simp [go_sem, Ord.yields, Ord.yieldUpon, hmf]; done)); intro K hK)
      | ((with_reducible refine Ord.at_wild ?_); refine Ord.wild_load (ad := ⟨w.heap.size + 1, 0, none⟩) (.int .i64 i) rfl rfl ?_ ?_; (focus (intro W hW; have r := hW.1.cell; simp [go_sem, r]; done)); intro K hK)
      | with_reducible refine Ord.top_two ?_ | with_reducible refine Ord.top_three ?_ | with_reducible refine Ord.at_two ?_ ?_ | with_reducible refine Ord.at_three ?_ ?_ ?_ | with_reducible refine Ord.tree_leaf ?_ | with_reducible refine Ord.tree_two ?_ | ((with_reducible refine Ord.at_calm ?_); refine Ord.calm_skip rfl ?_ (fun K hK => ?_); (focus (simp [Region.wanted, yielded]; done))) | with_reducible refine Ord.walk_calm rfl rfl (fun K hK => ?_) | ((with_reducible refine Ord.at_wild ?_); refine Ord.wild_fieldAddr rfl rfl (fun W => by simp [go_sem]; rfl) (fun K hK => ?_)) | ((with_reducible refine Ord.at_wild ?_); refine Ord.wild_move rfl rfl (fun K hK => ?_)) | ((with_reducible refine Ord.at_wild ?_); refine Ord.wild_nilCheck rfl rfl (fun K hK => ?_)) | with_reducible refine Ord.walk_eff rfl (by first | (simp; done) | assumption | (go_simp; done) | (repeat (first | assumption | exact Below.refl _ _ | refine Below.drew ?_ | refine Below.alloc ?_ (by first | omega | (simp; done) | (simp; omega)) _ | refine Below.setCell ?_ (by first | omega | (simp; done) | (simp; omega)) _ | refine Below.trans ?_ (Below.mono (by assumption) (by first | omega | (simp; done) | (simp; omega)))))) (fun K hK => ?_) | with_reducible refine Ord.at_fork ?_ ?_ | with_reducible refine Ord.walk_nil ?_ | (with_reducible refine Ord.next_of (by first | (simp; done) | (go_simp; done) | (repeat (first | assumption | exact Below.refl _ _ | refine Below.drew ?_ | refine Below.alloc ?_ (by first | omega | (simp; done) | (simp; omega)) _ | refine Below.setCell ?_ (by first | omega | (simp; done) | (simp; omega)) _ | refine Below.trans ?_ (Below.mono (by assumption) (by first | omega | (simp; done) | (simp; omega)))))) (fun _ => ?_)))
  rintro e ⟨tm, ds⟩ w8 ⟨rfl, rfl, h4, h5, hb8, he8⟩
  refine post_catch (v := .tuple #[.int .i64 0, .int .i64 10]) catch_Safe (fun W => by simp [go_sem]) rfl he8 fun w' hl hb => ⟨?_, rfl, below_lets hb8 hl (Nat.le_refl _) (fun _ _ _ => by omega)⟩
  simp only [Array.getD_eq_getD_getElem?] at h4 h5
  have r4 := hb.cell
  simp [results, Try.results25, go_sem, h4, h5, r4]
/-- How long a mob can go without water. -/
def thirstI (m : Mb) (i : Nat) : Int := (m.herds.getD i (0, 0, 0, 0)).2.2.2
def stretJ (m : Mb) (i : Nat) : Int × Int := joinL ((toldL m (everyN m)).map fun L => stretS m L i)
def safeN (m : Mb) (i : Nat) : Int := grB (decide ((stretJ m i).2 ≤ thirstI m i)) (decide ((stretJ m i).1 ≤ thirstI m i))
set_option maxHeartbeats 40000000 in
set_option maxRecDepth 100000 in
theorem m_Safe_ok {m : Mb} {A : Ma} (i : Nat) (w : World) (hl : Mlen m) (hm : MbAt w m A) (hv : validM m = true) (hi : herdB m i = true) (hk : knownM m = true) :
    Calls Try.prog 25 #[mv m A, .int .i64 (i : Int)] w (Gives2 (.int .i64 (safeN m i)) (.int .i64 0) w) := by
  have hih : i < m.herds.length := by have := inB_of hi; omega
  have hh4 : (m.herds.length : Int) ≤ 4 := by have := validM_len hv; omega
  have hii : (i : Int) < (m.herds.length : Int) := by omega
  obtain ⟨gb, go, e0, e1, e2, e3, e4⟩ := hm.herds.get4 hih
  have hgb := World.block_lt_of_cell? w _ e1
  simp only at hgb
  have HTh : Hid (thirstI m i = m.herds[i].2.2.2) := by show _ = _; unfold thirstI; rw [List.getD_eq_getElem?_getD, List.getElem?_eq_getElem hih]; rfl
  have HG := Lib.hid (fun x y W => m_graded x y W)
  rcases A with ⟨qa, qc, la, lc, ha, hc, sa, sc⟩
  simp only at e0
  subst e0
  have hmf := hmf_mob
  have HO : Hid (∀ W, Below w.heap.size w W → Blk W (w.heap.size + 1) #[.int .i64 (i : Int)] 3 → Calls Try.prog 42 #[mv m ⟨qa, qc, la, lc, some ⟨gb, go, none⟩, hc, sa, sc⟩, .func (.func 86) #[] #[.pointer (some ⟨w.heap.size + 1, 0, none⟩)]] W (fun e w' => ∃ wp mb pa pc, e = .returned (.pointer (some ⟨wp, 0, none⟩)) ∧ Opened w' wp m ⟨qa, qc, la, lc, some ⟨gb, go, none⟩, hc, sa, sc⟩ pa pc mb ∧ Below W.heap.size W w' ∧ W.heap.size ≤ wp ∧ W.heap.size ≤ mb)) := fun W hb b1 =>
    (m_open m ⟨qa, qc, la, lc, some ⟨gb, go, none⟩, hc, sa, sc⟩ 86 #[.pointer (some ⟨w.heap.size + 1, 0, none⟩)] (herdB m i) W hl (hm.below hb) (fun args W => Try.call86 args W) (fun hv W' wp mb pa pc hw hb' => m_herdC 86 (.inr rfl) _ (i : Int) W' hl hw (b1.below hb' b1.lt))).mono fun e w' h => open_ok h hv hi
  clear hl hm
  have HSN : Hid (safeN m i = grB (decide ((stretJ m i).2 ≤ thirstI m i)) (decide ((stretJ m i).1 ≤ thirstI m i))) := rfl
  have HJ : Hid (joinL ((toldL m (everyN m)).map fun L => stretS m L i) = stretJ m i) := rfl
  generalize stretJ m i = J at *
  generalize safeN m i = sn at *
  generalize thirstI m i = th at *
  obtain ⟨j1, j2⟩ := J
  rw [← HTh.out] at e4
  clear e1 e2 e3 HTh
  unfold mv mcells at *
  obtain ⟨W5, hW5⟩ : ∃ W5, (((w.alloc (.cells #[.slice qa m.places.length qc, .slice la m.legs.length lc, .slice (some ⟨gb, go, none⟩) m.herds.length hc, .slice sa m.seen.length sc] 27)).alloc (.cells #[.int .i64 (i : Int)] 3)).alloc (.cells #[.int .i64 0] 30)) = W5 := ⟨_, rfl⟩
  have hB5 : Below w.heap.size w W5 := by rw [← hW5]; (repeat (first | assumption | exact Below.refl _ _ | refine Below.drew ?_ | refine Below.alloc ?_ (by first | omega | (simp; done) | (simp; omega)) _ | refine Below.setCell ?_ (by first | omega | (simp; done) | (simp; omega)) _ | refine Below.trans ?_ (Below.mono (by assumption) (by first | omega | (simp; done) | (simp; omega)))))
  have b1 : Blk W5 (w.heap.size + 1) #[.int .i64 (i : Int)] 3 := by rw [← hW5]; exact ((Blk.new' _ _ _ _ (by simp)).alloc _)
  have b4 : Blk W5 (w.heap.size + 2) #[.int .i64 0] 30 := by rw [← hW5]; exact Blk.new' _ _ _ _ (by simp)
  have bm : Blk W5 w.heap.size #[.slice qa m.places.length qc, .slice la m.legs.length lc, .slice (some ⟨gb, go, none⟩) m.herds.length hc, .slice sa m.seen.length sc] 27 := by rw [← hW5]; exact (((Blk.new _ _ _).alloc _).alloc _)
  have hs5 : W5.heap.size = w.heap.size + 3 := by rw [← hW5]; simp
  have hs5a : W5.heap.size ≤ w.heap.size + 3 ∧ w.heap.size + 3 ≤ W5.heap.size := by omega
  clear hs5
  refine callsIn_wide.1 (callsIn_of_wp_marks (F := Fence.wide) (n := 0) Try.func25 rfl trivial (wpIn_wide.2 ?_) rfl)
  simp only [Try.ntmps25, List.size_toArray, List.length_cons, List.length_nil, Nat.reduceAdd, Nat.reduceSub, Array.replicate_succ, Array.replicate_zero, List.push_toArray, List.append_toArray, List.nil_append, List.cons_append]
  go_wp2_with fail
  clear hW5
  have b1d := b1.drew
  have bmd := bm.drew
  have r1 := b1.cell
  have HO5 := Lib.hid (HO.out W5.drew hB5.drew b1.drew)
  go_cut [6] from 8 to 13 (fun p wx => ∃ pb : Nat, p = .pointer (some ⟨pb, 0, none⟩) ∧ Blk wx pb #[.int .i64 j1, .int .i64 j2] 39 ∧ Blk wx w.heap.size #[.slice qa m.places.length qc, .slice la m.legs.length lc, .slice (some ⟨gb, go, none⟩) m.herds.length hc, .slice sa m.seen.length sc] 27 ∧ Blk wx (w.heap.size + 1) #[.int .i64 (i : Int)] 3 ∧ Blk wx (w.heap.size + 2) #[.int .i64 0] 30 ∧ w.heap.size + 2 < pb ∧ Below w.heap.size w wx)
  case first =>
    have hI5 := And.intro b1d bmd
    have hI5a := And.intro (b1.alloc (.cells #[.int .i64 0, .int .i64 0] 39)).drew (bm.alloc (.cells #[.int .i64 0, .int .i64 0] 39)).drew
    refine Ord.wp_regionTN 4 (.fork2 [(0, 1), (1, 1), (4, 1)] 2 (.fork2 [] 3 (.fork2 [] 5 (.leaf [(6, 2), (7, 2)]) 6 (.leaf [(5, 2), (7, 2)])) 6 (.leaf [(3, 2), (5, 2), (7, 2)])) 6 (.leaf [(2, 2), (3, 2), (5, 2), (7, 2)])) (fun W => Blk W (w.heap.size + 1) #[.int .i64 (i : Int)] 3 ∧ Blk W w.heap.size #[.slice qa m.places.length qc, .slice la m.legs.length lc, .slice (some ⟨gb, go, none⟩) m.herds.length hc, .slice sa m.seen.length sc] 27) (by kernel_rfl) (by kernel_rfl) hI5 ?_
    go_wp2_with (first
      | ((with_reducible refine Ord.at_wild ?_); refine Ord.wild_load (ad := ⟨w.heap.size, 0, none⟩) (.agg #[.slice qa m.places.length qc, .slice la m.legs.length lc, .slice (some ⟨gb, go, none⟩) m.herds.length hc, .slice sa m.seen.length sc]) rfl rfl ?_ ?_; (focus (intro W hW; exact loadVar_blk agg_mob hW.2 rfl)); intro K hK)
      | (go_at_call 42; refine (HO.out _ (by (repeat (first | assumption | exact Below.refl _ _ | refine Below.drew ?_ | refine Below.alloc ?_ (by first | omega | (simp; done) | (simp; omega)) _ | refine Below.setCell ?_ (by first | omega | (simp; done) | (simp; omega)) _ | refine Below.trans ?_ (Below.mono (by assumption) (by first | omega | (simp; done) | (simp; omega)))))) (by first | exact b1d | exact (b1.alloc _).drew)).mono ?_; rintro e w6 ⟨wp, mb, pa, pc, rfl, hOp, hb6, hwp, hmb⟩; (try simp only [World.size_drew, World.size_alloc] at hwp hmb); have hs6 := hb6.size; (try simp only [World.size_drew, World.size_alloc] at hs6); have hBw6 : Below w.heap.size w w6 := (by (repeat (first | assumption | exact Below.refl _ _ | refine Below.drew ?_ | refine Below.alloc ?_ (by first | omega | (simp; done) | (simp; omega)) _ | refine Below.setCell ?_ (by first | omega | (simp; done) | (simp; omega)) _ | refine Below.trans ?_ (Below.mono (by assumption) (by first | omega | (simp; done) | (simp; omega)))))); have b16 : Blk w6 (w.heap.size + 1) _ _ := (by first | exact b1d.below hb6 b1d.lt | exact (b1.alloc _).drew.below hb6 (b1.alloc _).drew.lt); have bm6 : Blk w6 w.heap.size _ _ := (by first | exact bmd.below hb6 bmd.lt | exact (bm.alloc _).drew.below hb6 (bm.alloc _).drew.lt); have b46 : Blk w6 (w.heap.size + 2) _ _ := (by first | exact b4.drew.below hb6 b4.lt | exact (b4.alloc _).drew.below hb6 (b4.alloc _).drew.lt); have hI6 := And.intro b16 bm6; have hI6a := And.intro (b16.alloc (.cells #[.int .i64 0, .int .i64 0] 39)) (bm6.alloc (.cells #[.int .i64 0, .int .i64 0] 39)); have hmb6 := hOp.mb_lt; have hW6 : Way w6 mb m w6 := ⟨hOp.kept, Lets.refl _ _⟩; have hW6a := hW6.below ((Below.refl w6.heap.size w6).alloc (Nat.le_refl _) (.cells #[.int .i64 0, .int .i64 0] 39)) hOp.mb_lt; have HKn := Lib.hid (fun W hw => m_known_yes hv hOp W hw hk); have HSt := Lib.hid (fun W hw => m_stretches hv hOp i hih W hw); rw [HJ.out] at HSt)
      | (go_at_call 45; refine (HKn.out _ (by assumption)).mono ?_; rintro e w7 ⟨rfl, hW7, hl7⟩; have hs7 := hl7.size; (try simp only [World.size_drew, World.size_alloc] at hs7); have hBw7 : Below w.heap.size w w7 := below_lets (by (repeat (first | assumption | exact Below.refl _ _ | refine Below.drew ?_ | refine Below.alloc ?_ (by first | omega | (simp; done) | (simp; omega)) _ | refine Below.setCell ?_ (by first | omega | (simp; done) | (simp; omega)) _ | refine Below.trans ?_ (Below.mono (by assumption) (by first | omega | (simp; done) | (simp; omega))))) : Below w.heap.size w _) hl7 (Nat.le_refl _) (fun _ _ _ => by omega); have b17 := hl7.blk (show Blk _ (w.heap.size + 1) #[.int .i64 (i : Int)] 3 from by first | exact b16 | exact b16.alloc _) (by omega); have bm7 := hl7.blk (show Blk _ w.heap.size #[.slice qa m.places.length qc, .slice la m.legs.length lc, .slice (some ⟨gb, go, none⟩) m.herds.length hc, .slice sa m.seen.length sc] 27 from by first | exact bm6 | exact bm6.alloc _) (by omega); have b47 := hl7.blk (show Blk _ (w.heap.size + 2) #[.int .i64 0] 30 from by first | exact b46 | exact b46.alloc _) (by omega); have hI7 := And.intro b17 bm7; have hI7a := And.intro (b17.alloc (.cells #[.int .i64 0, .int .i64 0] 39)) (bm7.alloc (.cells #[.int .i64 0, .int .i64 0] 39)); have hW7a := hW7.below ((Below.refl w7.heap.size w7).alloc (Nat.le_refl _) (.cells #[.int .i64 0, .int .i64 0] 39)) hmb6)
      | (go_at_call 84; refine (HSt.out _ (by assumption)).mono ?_; rintro e wa ⟨rfl, hWa, hla⟩; have hsa := hla.size; (try simp only [World.size_drew, World.size_alloc] at hsa); have hBwa : Below w.heap.size w wa := below_lets (by (repeat (first | assumption | exact Below.refl _ _ | refine Below.drew ?_ | refine Below.alloc ?_ (by first | omega | (simp; done) | (simp; omega)) _ | refine Below.setCell ?_ (by first | omega | (simp; done) | (simp; omega)) _ | refine Below.trans ?_ (Below.mono (by assumption) (by first | omega | (simp; done) | (simp; omega))))) : Below w.heap.size w _) hla (Nat.le_refl _) (fun _ _ _ => by omega); have b1a := hla.blk (show Blk _ (w.heap.size + 1) #[.int .i64 (i : Int)] 3 from by first | exact b17 | exact b17.alloc _) (by omega); have bma := hla.blk (show Blk _ w.heap.size #[.slice qa m.places.length qc, .slice la m.legs.length lc, .slice (some ⟨gb, go, none⟩) m.herds.length hc, .slice sa m.seen.length sc] 27 from by first | exact bm7 | exact bm7.alloc _) (by omega); have b4a := hla.blk (show Blk _ (w.heap.size + 2) #[.int .i64 0] 30 from by first | exact b47 | exact b47.alloc _) (by omega); have hIa := And.intro b1a bma; have hIaa := And.intro (b1a.alloc (.cells #[.int .i64 0, .int .i64 0] 39)) (bma.alloc (.cells #[.int .i64 0, .int .i64 0] 39)))
      | (refine wpList_store_blk 39 (.tmp 6) (.tmp 13) agg_span rfl rfl rfl rfl (by first | exact Blk.new _ _ _ | exact hla.blk (Blk.new _ _ _) (by omega) | exact hla.blk (hl7.blk (Blk.new _ _ _) (by omega)) (by omega) | exact hla.blk (hl7.blk ((Blk.new W5 _ _).drew.below hb6 (by simp)) (by omega)) (by omega)) rfl rfl (by simp [Value.oneCell']) ?_; intro w8 h8; have b18 := h8.other (show Blk _ (w.heap.size + 1) #[.int .i64 (i : Int)] 3 from by first | exact b1a | exact b1a.alloc _) (by omega); have bm8 := h8.other (show Blk _ w.heap.size #[.slice qa m.places.length qc, .slice la m.legs.length lc, .slice (some ⟨gb, go, none⟩) m.herds.length hc, .slice sa m.seen.length sc] 27 from by first | exact bma | exact bma.alloc _) (by omega); have b48 := h8.other (show Blk _ (w.heap.size + 2) #[.int .i64 0] 30 from by first | exact b4a | exact b4a.alloc _) (by omega); have hI8 := And.intro b18 bm8; have hB8 : Below w.heap.size w w8 := h8.below (by (repeat (first | assumption | exact Below.refl _ _ | refine Below.drew ?_ | refine Below.alloc ?_ (by first | omega | (simp; done) | (simp; omega)) _ | refine Below.setCell ?_ (by first | omega | (simp; done) | (simp; omega)) _ | refine Below.trans ?_ (Below.mono (by assumption) (by first | omega | (simp; done) | (simp; omega)))))) (by omega))
      | (refine Ord.next_of hI8 (fun _ => ?_))
      | (with_reducible refine Ord.at_nm ?_)
      | ((with_reducible refine Ord.at_wild ?_); refine Ord.walk_wild_as rfl (.func (.func 86) #[] #[.pointer (some ⟨w.heap.size + 1, 0, none⟩)]) ?_ ?_; (focus (intro W hW; simp [go_sem, Ord.yields, Ord.yieldUpon, hmf]; done)); intro K hK)
      | ((with_reducible refine Ord.at_wild ?_); refine Ord.wild_load (ad := ⟨w.heap.size + 1, 0, none⟩) (.int .i64 (i : Int)) rfl rfl ?_ ?_; (focus (intro W hW; have r := hW.1.cell; simp [go_sem, r]; done)); intro K hK)
      | with_reducible refine Ord.top_two ?_ | with_reducible refine Ord.top_three ?_ | with_reducible refine Ord.at_two ?_ ?_ | with_reducible refine Ord.at_three ?_ ?_ ?_ | with_reducible refine Ord.tree_leaf ?_ | with_reducible refine Ord.tree_two ?_ | ((with_reducible refine Ord.at_calm ?_); refine Ord.calm_skip rfl ?_ (fun K hK => ?_); (focus (simp [Region.wanted, yielded]; done))) | with_reducible refine Ord.walk_calm rfl rfl (fun K hK => ?_) | ((with_reducible refine Ord.at_wild ?_); refine Ord.wild_fieldAddr rfl rfl (fun W => by simp [go_sem]; rfl) (fun K hK => ?_)) | ((with_reducible refine Ord.at_wild ?_); refine Ord.wild_move rfl rfl (fun K hK => ?_)) | ((with_reducible refine Ord.at_wild ?_); refine Ord.wild_nilCheck rfl rfl (fun K hK => ?_)) | with_reducible refine Ord.walk_eff rfl (by first | (simp; done) | assumption | (go_simp; done) | (repeat (first | assumption | exact Below.refl _ _ | refine Below.drew ?_ | refine Below.alloc ?_ (by first | omega | (simp; done) | (simp; omega)) _ | refine Below.setCell ?_ (by first | omega | (simp; done) | (simp; omega)) _ | refine Below.trans ?_ (Below.mono (by assumption) (by first | omega | (simp; done) | (simp; omega)))))) (fun K hK => ?_) | with_reducible refine Ord.at_fork ?_ ?_ | with_reducible refine Ord.walk_nil ?_ | (with_reducible refine Ord.next_of (by first | (simp; done) | (go_simp; done) | (repeat (first | assumption | exact Below.refl _ _ | refine Below.drew ?_ | refine Below.alloc ?_ (by first | omega | (simp; done) | (simp; omega)) _ | refine Below.setCell ?_ (by first | omega | (simp; done) | (simp; omega)) _ | refine Below.trans ?_ (Below.mono (by assumption) (by first | omega | (simp; done) | (simp; omega)))))) (fun _ => ?_)))
    all_goals go_meet
    all_goals exact ⟨_, rfl, h8.blk, bm8, b18, b48, by omega, hB8⟩
  case rest =>
    obtain ⟨pb, rfl, bp, bmx, b1x, b4x, hpb, hbx⟩ := hcut
    have g4 := (hbx.cell (p := ⟨gb, go + i * 4 + 3, none⟩) hgb).trans e4
    have r6 := bp.cell
    have rm := bmx.cell
    have r1x := b1x.cell
    have r4 := b4x.cell
    have f4 := b4x.free
    have l4 := b4x.lt
    clear b1d bmd r1 bp bmx b1x HO HO5 b1 bm b4 hB5 e4
    go_wp2_with fail
    refine Ord.wp_regionN [(0, 0), (1, 0), (2, 0), (3, 0), (4, 0), (5, 0), (6, 0), (7, 0), (8, 0), (9, 0), (10, 0), (11, 0), (12, 0), (13, 0), (14, 0), (15, 0), (16, 0), (17, 0), (18, 0), (19, 0), (20, 2)] (fun _ => True) (by kernel_rfl) (by kernel_rfl) trivial ?_
    go_wp2_with (first
      | (with_reducible refine Ord.at_nm ?_)
      | ((with_reducible refine Ord.at_calm ?_); refine Ord.calm_skip rfl ?_ (fun K hK => ?_); (focus (simp [Region.wanted, yielded]; done))) | with_reducible refine Ord.walk_calm rfl rfl (fun K hK => ?_) | ((with_reducible refine Ord.at_wild ?_); refine Ord.wild_fieldAddr rfl rfl (fun W => by simp [go_sem]; rfl) (fun K hK => ?_)) | ((with_reducible refine Ord.at_wild ?_); refine Ord.wild_move rfl rfl (fun K hK => ?_)) | ((with_reducible refine Ord.at_wild ?_); refine Ord.wild_nilCheck rfl rfl (fun K hK => ?_)) | with_reducible refine Ord.walk_eff rfl (by first | (simp; done) | assumption | (go_simp; done) | (repeat (first | assumption | exact Below.refl _ _ | refine Below.drew ?_ | refine Below.alloc ?_ (by first | omega | (simp; done) | (simp; omega)) _ | refine Below.setCell ?_ (by first | omega | (simp; done) | (simp; omega)) _ | refine Below.trans ?_ (Below.mono (by assumption) (by first | omega | (simp; done) | (simp; omega)))))) (fun K hK => ?_) | with_reducible refine Ord.at_fork ?_ ?_ | with_reducible refine Ord.walk_nil ?_ | (with_reducible refine Ord.next_of (by first | (simp; done) | (go_simp; done) | (repeat (first | assumption | exact Below.refl _ _ | refine Below.drew ?_ | refine Below.alloc ?_ (by first | omega | (simp; done) | (simp; omega)) _ | refine Below.setCell ?_ (by first | omega | (simp; done) | (simp; omega)) _ | refine Below.trans ?_ (Below.mono (by assumption) (by first | omega | (simp; done) | (simp; omega)))))) (fun _ => ?_))
      | ((with_reducible refine Ord.at_calm ?_); refine Ord.calm_call rfl (fun W => Try.call49 _ W) (HG.out _ _ _) (fun K hK => ?_)) | ((with_reducible refine Ord.at_wild ?_); refine Ord.wild_call rfl (fun W => Try.call49 _ W) (fun W hW => HG.out _ _ _) (fun K hK => ?_)))
    obtain ⟨Wf, hWf⟩ : ∃ Wf, (wc.setCell ⟨w.heap.size + 2, 0, none⟩ (.int .i64 0)).drew = Wf := ⟨_, rfl⟩
    have r4f := (by rw [← hWf]; exact (b4x.set 0 _).drew : Blk Wf (w.heap.size + 2) #[.int .i64 0] 30).cell
    have hbf : Below w.heap.size w Wf := by rw [← hWf]; exact (hbx.setCell (by simp) _).drew
    change bodyPostM Fence.wide 0 Try.prog _ _ .ret _ ((wc.setCell ⟨w.heap.size + 2, 0, none⟩ (.int .i64 0)).drew)
    rw [hWf]
    refine post_out (v := .tuple #[.int .i64 (grB (decide (j2 ≤ th)) (decide (j1 ≤ th))), .int .i64 0]) catch_Safe (fun W => by simp [go_sem]) rfl ?_ ⟨by rw [HSN.out], hbf⟩
    simp [results, Try.results25, go_sem, r4f]
def safeR (m : Mb) (i : Int) : Int × Int := if knownP m (herdB m i) = 0 then (safeN m i.toNat, 0) else (0, knownP m (herdB m i))
theorem m_Safe {m : Mb} {A : Ma} (i : Int) (w : World) (hl : Mlen m) (hm : MbAt w m A) :
    Calls Try.prog 25 #[mv m A, .int .i64 i] w (Gives2 (.int .i64 (safeR m i).1) (.int .i64 (safeR m i).2) w) := by
  unfold safeR
  rcases knownP_cases m (herdB m i) with ⟨h1, h2⟩ | ⟨hv, hi, hk, h2⟩ | ⟨hv, hi, hk, h2⟩
  · rw [if_neg h2]; exact m_Safe_stop i w hl hm h1
  · rw [h2, if_neg (by simp)]; exact m_Safe_clash i w hl hm hv hi hk
  · rw [if_pos h2]
    have b1 := inB_of hi
    obtain ⟨i', rfl⟩ : ∃ i' : Nat, i = (i' : Int) := ⟨i.toNat, by omega⟩
    exact m_Safe_ok i' w hl hm hv hi hk
end Go.Proofs.Yteeinehpneppnaa
