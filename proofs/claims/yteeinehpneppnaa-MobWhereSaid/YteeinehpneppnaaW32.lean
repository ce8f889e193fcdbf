/- Parts of a proof: MrA, MrP, MrC. -/
import Derived.Test.YteeinehpneppnaaW28
import Derived.Laws.BitsAllLaws
import Derived.Lib.QuoteBits
import Derived.Test.YteeinehpneppnaaW30
/- Bits; what of a list a set takes. (Picked by mkMrA.py) -/
set_option linter.unusedVariables false
set_option linter.unusedSimpArgs false
namespace Go.Proofs.Yteeinehpneppnaa
open Go.RowKit Go.Proofs
attribute [local irreducible] Ord.walk
open Go.Lib (wrap_i64_small)
theorem and_i64 (x y : Nat) (hx : x < 4611686018427387904) (hy : y < 4611686018427387904) : bits .and .i64 (x : Int) (y : Int) = ((x &&& y : Nat) : Int) := by
  show IntKind.i64.wrap ((BitVec.ofInt 64 (x : Int) &&& BitVec.ofInt 64 (y : Int)).toNat : Int) = _
  rw [BitVec.toNat_and, ofInt_u64 x (by omega), ofInt_u64 y (by omega)]
  have : x &&& y ≤ x := Nat.and_le_left
  exact wrap_i64_small _ (by omega)
theorem andNot_nat (x y : Nat) (hx : x < 2 ^ 62) (hy : y < 2 ^ 62) : x &&& (2 ^ 64 - 1 - y) = x ^^^ (x &&& y) := by
  apply Nat.eq_of_testBit_eq
  intro i
  rw [Nat.testBit_and, Nat.testBit_xor, Nat.testBit_and]
  by_cases hi : i < 62
  · have : (2 ^ 64 - 1 - y).testBit i = !y.testBit i := by
      have h := Nat.testBit_two_pow_sub_succ (x := y) (n := 64) (by omega) i
      rw [show 2 ^ 64 - 1 - y = 2 ^ 64 - (y + 1) by omega, h]
      simp; omega
    rw [this]
    cases x.testBit i <;> cases y.testBit i <;> rfl
  · have : x.testBit i = false := Nat.testBit_lt_two_pow (Nat.lt_of_lt_of_le hx (Nat.pow_le_pow_right (by omega) (by omega)))
    rw [this]; simp
theorem andNot_i64 (x y : Nat) (hx : x < 4611686018427387904) (hy : y < 4611686018427387904) : bits .andNot .i64 (x : Int) (y : Int) = ((x ^^^ (x &&& y) : Nat) : Int) := by
  show IntKind.i64.wrap ((BitVec.ofInt 64 (x : Int) &&& ~~~BitVec.ofInt 64 (y : Int)).toNat : Int) = _
  rw [BitVec.toNat_and, BitVec.toNat_not, ofInt_u64 x (by omega), ofInt_u64 y (by omega), andNot_nat x y hx hy]
  have h1 : x ^^^ (x &&& y) < 2 ^ 62 := Nat.xor_lt_two_pow hx (Nat.and_lt_two_pow _ hy)
  exact wrap_i64_small _ (by have : (2:Nat) ^ 62 = 4611686018427387904 := rfl; omega)
/-- A bit of a number, as an int. -/
def bitI (x i : Nat) : Int := ((x / 2 ^ i % 2 : Nat) : Int)
theorem bit_i64 (x i : Nat) (hx : x < 4611686018427387904) : bits .and .i64 ((x : Int) / 2 ^ i) 1 = bitI x i := by
  have e : (x : Int) / 2 ^ i = ((x / 2 ^ i : Nat) : Int) := by rw [Int.natCast_ediv]; push_cast; rfl
  have h := Nat.div_le_self x (2 ^ i)
  rw [e, show (1 : Int) = ((1 : Nat) : Int) from rfl, and_i64 _ 1 (by omega) (by omega), Nat.and_one_is_mod]
  rfl
theorem bitI_hasB (x i : Nat) : bitI x i = if hasB x i then 1 else 0 := by
  unfold bitI hasB
  rcases Nat.mod_two_eq_zero_or_one (x / 2 ^ i) with h | h <;> rw [h] <;> rfl
/-- What of a list a set takes. -/
def selL {α : Type} (l : List α) (s o : Nat) : Nat → List α
  | 0 => []
  | k + 1 => selL l s o k ++ if hasB s (o + k) then (l[k]?).toList else []
theorem selL_yes {α : Type} (l : List α) (s o k : Nat) (h : k < l.length) (hb : hasB s (o + k) = true) : selL l s o (k + 1) = selL l s o k ++ [l[k]] := by
  rw [selL, if_pos hb, List.getElem?_eq_getElem h]; rfl
theorem selL_no {α : Type} (l : List α) (s o k : Nat) (hb : hasB s (o + k) = false) : selL l s o (k + 1) = selL l s o k := by
  rw [selL, hb]; simp
theorem selL_len {α : Type} (l : List α) (s o : Nat) : ∀ k, (selL l s o k).length ≤ k
  | 0 => Nat.le_refl _
  | k + 1 => by
    have ih := selL_len l s o k
    rw [selL, List.length_append]
    have : (if hasB s (o + k) = true then (l[k]?).toList else []).length ≤ 1 := by
      split
      · cases l[k]? <;> simp
      · simp
    omega
theorem selL_mem {α : Type} (l : List α) (s o : Nat) : ∀ k, ∀ x ∈ selL l s o k, x ∈ l
  | 0, x, h => by cases h
  | k + 1, x, h => by
    rw [selL, List.mem_append] at h
    rcases h with h | h
    · exact selL_mem l s o k x h
    · split at h
      · rw [Option.mem_toList] at h; exact List.mem_of_getElem? h
      · cases h
theorem sz_less : ∀ i, i < 8 → ∀ x, x < 256 → hasB x i = true → sz (x ^^^ (x &&& 2 ^ i)) < sz x := by decide +kernel
theorem xor_less : ∀ i, i < 8 → ∀ x, x < 256 → x ^^^ (x &&& 2 ^ i) ≤ x := by decide +kernel
theorem pow_i64' (k : Nat) (h : k < 62) : IntKind.i64.wrap ((2 : Int) ^ k) = (2 : Int) ^ k := by
  have e1 : ((2 : Int) ^ k) = ((2 ^ k : Nat) : Int) := by simp
  have h8 : 2 ^ k < 2 ^ 62 := Nat.pow_lt_pow_right (by omega) h
  have e : (2 : Nat) ^ 62 = 4611686018427387904 := rfl
  rw [e1]
  clear e1
  generalize 2 ^ k = x at *
  exact Lib.wrap_i64_small _ (by omega)
theorem sz_le {w : Nat} (h : w < 256) : sz w ≤ 8 := by rw [sz_pop w h]; exact pop_le w
end Go.Proofs.Yteeinehpneppnaa
/- Plain laws of the law MobClash. -/
set_option linter.unusedVariables false
set_option linter.unusedSimpArgs false
namespace Go.Proofs.Yteeinehpneppnaa
open Go.RowKit Go.Proofs
attribute [local irreducible] Ord.walk
theorem selL_iff {α : Type} (l : List α) (s : Nat) (x : α) : ∀ k, x ∈ selL l s 0 k ↔ ∃ i, i < k ∧ hasB s i = true ∧ l[i]? = some x
  | 0 => by simp [selL]
  | k + 1 => by
    rw [selL, List.mem_append, selL_iff l s x k, Nat.zero_add]
    constructor
    · rintro (⟨i, h1, h2, h3⟩ | h)
      · exact ⟨i, by omega, h2, h3⟩
      · split at h
        · rename_i hb
          exact ⟨k, by omega, hb, by simpa [Option.mem_toList] using h⟩
        · cases h
    · rintro ⟨i, h1, h2, h3⟩
      rcases Nat.lt_or_ge i k with hlt | hge
      · exact .inl ⟨i, hlt, h2, h3⟩
      · obtain rfl : i = k := by omega
        right
        rw [if_pos h2, h3]
        simp
/-- A way of which just what of a set was seen. -/
def subM (m : Mb) (s : Nat) : Mb := { m with seen := selL m.seen s 0 m.seen.length }
theorem inK_sub (m : Mb) (S : List (Int × Int × Int × Int)) (L : List Int) (s : Nat) (d : Int) : ∀ k, inK { m with seen := S } L s d k = inK m L s d k
  | 0 => rfl
  | k + 1 => by simp only [inK]; rw [inK_sub m S L s d k]; rfl
theorem seenB_sub (m : Mb) (S : List (Int × Int × Int × Int)) (L D : List Int) (x : Int × Int × Int × Int) : seenB { m with seen := S } L D x = seenB m L D x := by
  unfold seenB dayAt
  rw [inK_sub]
  rfl
theorem subM_valid {m : Mb} (hv : validM m = true) (s : Nat) : validM (subM m s) = true := by
  unfold validM at hv ⊢
  simp only [Bool.and_eq_true] at hv ⊢
  have hsl := selL_len m.seen s 0 m.seen.length
  refine ⟨?_, hv.2.1, hv.2.2.1, hv.2.2.2.1, ?_⟩
  · have h := hv.1
    unfold headM at h ⊢
    simp only [Bool.and_eq_true, decide_eq_true_eq] at h ⊢
    have e1 : (subM m s).places = m.places := rfl
    have e2 : (subM m s).legs = m.legs := rfl
    have e3 : (subM m s).herds = m.herds := rfl
    have e4 : (subM m s).seen = selL m.seen s 0 m.seen.length := rfl
    rw [e1, e2, e3, e4]
    clear e1 e2 e3 e4
    generalize (selL m.seen s 0 m.seen.length).length = z at *
    generalize m.seen.length = y at *
    have hz : z ≤ y := hsl
    refine ⟨?_, ?_⟩ <;> first | exact h.1 | omega
  · rw [List.all_eq_true]
    intro x hx
    exact List.all_eq_true.1 hv.2.2.2.2 x (selL_mem _ _ _ _ x hx)
theorem right_sub {m : Mb} (hv : validM m = true) (s : Nat) (L D : List Int) : rightM (subM m s) L D (everyN (subM m s)) = rightM m L D s := by
  rw [Bool.eq_iff_iff, rightM_iff, rightM_iff]
  have hlen := validM_len (subM_valid hv s)
  have hseen : (subM m s).seen = selL m.seen s 0 m.seen.length := rfl
  constructor
  · intro h i hi hb
    have hx : m.seen.getD i (0, 0, 0, 0) ∈ selL m.seen s 0 m.seen.length := (selL_iff _ _ _ _).2 ⟨i, hi, hb, by rw [List.getD_eq_getElem?_getD, List.getElem?_eq_getElem hi]; rfl⟩
    obtain ⟨j, hj, e⟩ := List.mem_iff_getElem.1 hx
    have := h j (by rw [hseen]; exact hj) (hasB_every _ j (by rw [hseen]; exact hj) (by omega))
    have e2 : (subM m s).seen.getD j (0, 0, 0, 0) = m.seen.getD i (0, 0, 0, 0) := by
      rw [hseen, List.getD_eq_getElem?_getD, List.getElem?_eq_getElem hj, Option.getD_some, e]
    rw [e2] at this
    unfold subM at this
    rwa [seenB_sub] at this
  · intro h j hj _
    have e2 : (subM m s).seen.getD j (0, 0, 0, 0) ∈ selL m.seen s 0 m.seen.length := by
      rw [List.getD_eq_getElem?_getD, List.getElem?_eq_getElem hj, Option.getD_some]
      exact List.getElem_mem _
    obtain ⟨i, hi, hb, e⟩ := (selL_iff _ _ _ _).1 e2
    have := h i hi hb
    rw [List.getD_eq_getElem?_getD, e, Option.getD_some] at this
    unfold subM
    rw [seenB_sub]
    exact this
theorem TM_sub {m : Mb} (hv : validM m = true) (s : Nat) : TM (subM m s) = truthsM m s := by
  unfold TM truthsM
  simp only [right_sub hv]
  rfl
theorem there_sub {m : Mb} (hv : validM m = true) (s : Nat) : ∃ a b, thereR (subM m s) 0 = (a, b, if (truthsM m s).isEmpty = true then 10 else 0) := by
  have hk : knownP (subM m s) (inB 0 0 100) = if (truthsM m s).isEmpty = true then 10 else 0 := by
    rw [← knownE_eq]
    unfold knownE
    rw [subM_valid hv, TM_sub hv, if_neg (by simp), if_neg (by decide)]
    simp [List.isEmpty_iff]
  unfold thereR
  rw [hk]
  cases h : (truthsM m s).isEmpty
  · simp
  · simp
theorem truths_zero {m : Mb} (hv : validM m = true) : (truthsM m 0).isEmpty = false := by
  have hne : toldL m 0 ≠ [] := by
    have hL : m.legs.map (·.1) ∈ prodL m.legs := (mem_prodL _ _).2 ⟨by simp, fun i hi => ⟨(m.legs[i]).1, by simp [hi], Int.le_refl _, by
      have := validM_leg hv hi
      rw [List.getD_eq_getElem?_getD, List.getElem?_eq_getElem hi, Option.getD_some] at this
      omega⟩⟩
    have : m.legs.map (·.1) ∈ toldL m 0 := (told_iff 0 _).2 ⟨hL, fun h hh => by
      have hs := validM_herd hv hh
      have := (lvTo_iff m (m.legs.map (·.1)) h 0 (m.herds.getD h (0, 0, 0, 0)).2.1 m.seen.length).2 ⟨⟨Int.le_refl _, by omega⟩, fun i hi hb => absurd hb (by unfold hasB; simp)⟩
      show (lvTo m _ h 0 m.seen.length).1 ≤ (lvTo m _ h 0 m.seen.length).2
      omega⟩
    intro e
    rw [e] at this
    simp at this
  cases h : (truthsM m 0).isEmpty
  · rfl
  · rw [List.isEmpty_iff, none_iff hv] at h
    exact absurd h hne
/-- What is returned of what was seen. -/
structure Cf (m : Mb) (x e : Int) : Prop where
  clash : clashP m = (x, e)
  case : (e = 4 ∧ x = 0 ∧ (truthsM m (2 ^ m.seen.length - 1)).isEmpty = false) ∨ (∃ q : Nat, e = 0 ∧ x = q ∧ 1 ≤ q ∧ q < 2 ^ m.seen.length ∧ (truthsM m (2 ^ m.seen.length - 1)).isEmpty = true ∧ (truthsM m q).isEmpty = true ∧
    (∀ i, i < m.seen.length → hasB q i = true → (truthsM m (q ^^^ (q &&& 2 ^ i))).isEmpty = false) ∧ ∀ y, y < 2 ^ m.seen.length → (truthsM m y).isEmpty = true → sz q < sz y ∨ (sz q = sz y ∧ q ≤ y))
theorem cf {m : Mb} (hv : validM m = true) : ∃ x e, Cf m x e := by
  have hlen := validM_len hv
  have h8 : m.seen.length ≤ 8 := by omega
  have hp8 : 2 ^ m.seen.length ≤ 2 ^ 8 := Nat.pow_le_pow_right (by omega) h8
  have e8 : (2 : Nat) ^ 8 = 256 := rfl
  have hp0 := Nat.two_pow_pos m.seen.length
  by_cases ht : TM m = []
  · obtain ⟨h1, h2, h3⟩ := bestF_prop (fun s => (truthsM m s).isEmpty) m.seen.length h8 (by show (TM m).isEmpty = true; rw [ht]; rfl) (2 ^ m.seen.length) (Nat.le_refl _)
    have hcl : clashP m = (((bestF (fun s => (truthsM m s).isEmpty) (2 ^ m.seen.length - 1) (2 ^ m.seen.length) : Nat) : Int), 0) := by
      rw [clashP_eq]
      unfold clashR
      rw [if_neg (by rw [hv]; simp), if_pos ht, bestTo_eq, show everyN m = 2 ^ m.seen.length - 1 from rfl, show 2 ^ m.seen.length - 1 + 1 = 2 ^ m.seen.length by omega]
    generalize bestF (fun s => (truthsM m s).isEmpty) (2 ^ m.seen.length - 1) (2 ^ m.seen.length) = q at *
    refine ⟨(q : Nat), 0, ⟨hcl, .inr ⟨q, rfl, rfl, ?_, h2, by show (TM m).isEmpty = true; rw [ht]; rfl, h1, fun i hi hb => ?_, fun y hy hf => h3 y hy hf⟩⟩⟩
    · rcases Nat.eq_zero_or_pos q with rfl | h
      · rw [truths_zero hv] at h1; cases h1
      · exact h
    · have hl := sz_less i (by omega) q (by omega) hb
      have hx := xor_less i (by omega) q (by omega)
      cases hf : (truthsM m (q ^^^ (q &&& 2 ^ i))).isEmpty
      · rfl
      · have h4 := h3 _ (show _ < 2 ^ m.seen.length by omega) hf
        omega
  · refine ⟨0, 4, ⟨by rw [clashP_eq]; unfold clashR; rw [if_neg (by rw [hv]; simp), if_neg ht], .inl ⟨rfl, rfl, ?_⟩⟩⟩
    show (TM m).isEmpty = false
    cases h : TM m with
    | nil => exact absurd h ht
    | cons _ _ => rfl
end Go.Proofs.Yteeinehpneppnaa
/- MobClash's closure: does what of a set was seen clash? -/
set_option linter.unusedVariables false
set_option linter.unusedSimpArgs false
namespace Go.Proofs.Yteeinehpneppnaa
open Go.RowKit Go.Proofs
attribute [local irreducible] Ord.walk
theorem Try.info64 : (Try.prog.info? 64).map (fun i => (i.zero, i.size, i.bytes)) = some (some (.agg #[.int .i64 0, .int .i64 0, .int .i64 0, .int .i64 0]), 4, 32) := by kernel_rfl
theorem Off.grown {T : List Nat} {n : Nat} {w w' w'' : World} {row : Option Nat} (h : Off T n w w') (hg : w'.grownBy w'' row) (hn : n ≤ w'.heap.size) (hr : ∀ g, row = some g → g ∈ T ∨ n ≤ g) : Off T n w w'' :=
  h.trans ⟨hg.os, hg.tape, hg.output, hg.size, fun k hk ht => hg.block k (by omega) (fun e => by rcases hr k e.symm with h | h; exact ht h; omega)⟩
theorem own_rows {α : Type} {n : Nat} {f : α → List Value} (hf : ∀ a, (f a).length = n) {w : World} {base : Nat} {e : TypeId} {v : Value} {l : List α} (h : w.ownsRow base e n v l.length (l.flatMap f)) : ∃ a c, v = .slice a l.length c ∧ RowsAt w a n f l := by
  obtain ⟨hl, ⟨rfl, h0⟩ | ⟨g, cap, cur, rfl, hg, hh, hn, hc, hs, ht⟩⟩ := h
  · have : l = [] := List.length_eq_zero_iff.1 h0
    subst this
    exact ⟨none, 0, rfl, rows_nil none⟩
  · refine ⟨_, cap, rfl, fun i hi => ⟨g, 0, rfl, fun j u hj => ?_⟩⟩
    have hjn : j < n := by
      by_cases hlt : j < n
      · exact hlt
      · rw [List.getElem?_eq_none (by rw [hf]; omega)] at hj; cases hj
    have hlt : i * n + j < l.length * n := by
      have := Nat.mul_le_mul_right n (show i + 1 ≤ l.length from hi)
      rw [Nat.add_mul] at this
      omega
    rw [Nat.zero_add, cell_of_row w g _ cur e (0, 0) hh]
    have h3 := flat_get f hf l i hi j hjn
    rw [← ht, List.getElem?_take, if_pos hlt] at h3
    rw [← Array.getElem?_toList, h3]
    exact hj
set_option maxHeartbeats 40000000 in
set_option maxRecDepth 100000 in
theorem l_clash1 (m : Mb) (A : Ma) (s p : Nat) (w : World) (bb : Blk w p (mcells m A) 27) (hm : MbAt w m A) (hv : validM m = true) (hs : s < 256) :
    Calls Try.prog 37 #[.int .i64 s, .pointer (some ⟨p, 0, none⟩)] w (Gives (.bool (truthsM m s).isEmpty) w) := by
  have hs9 : s < 4611686018427387904 := by omega
  have hlen := validM_len hv
  have hsub := validM_len (subM_valid hv s)
  obtain ⟨ra, rb', hth⟩ := there_sub hv s
  have HC : Hid (∀ g' c' W, MbAt W (subM m s) ⟨A.pa, A.pc, A.la, A.lc, A.ha, A.hc, g', c'⟩ → Calls Try.prog 15 #[mv (subM m s) ⟨A.pa, A.pc, A.la, A.lc, A.ha, A.hc, g', c'⟩, .int .i64 0] W (Gives3 (.int .i64 ra) (.int .i64 rb') (.int .i64 (if (truthsM m s).isEmpty = true then 10 else 0)) W)) := fun g' c' W h => by
    have := m_There 0 W (by constructor <;> omega) h
    rwa [hth] at this
  obtain ⟨i0, hi0, hz0, hz1, hz2⟩ := info_parts Try.info64
  have HR : Hid (subM m s = { m with seen := selL m.seen s 0 m.seen.length }) := rfl
  generalize (truthsM m s).isEmpty = em at *
  generalize subM m s = sb at *
  have hpl := bb.lt
  clear hv hth hsub
  rcases m with ⟨ps, ls, hs', ss⟩
  rcases A with ⟨pa, pc, la, lc, ha, hc, sa, sc⟩
  unfold mcells at bb
  simp only at *
  have hse := hm.seen
  go_enter Try.func37, Try.ntmps37
  go_wp2_with (first
    | (refine wpList_load_blk 27 (.tmp 1) agg_mob rfl rfl rfl bb rfl ?_)
    | (refine wpList_store_blk 27 (.tmp 4) (.tmp 10) agg_mob rfl rfl rfl rfl (Blk.new _ _ _) rfl rfl (by simp [Value.oneCell']) ?_; intro w2 h2; refine at_stop ?_))
  unfold Stop
  have b4 := h2.blk
  have hb2 : Below w.heap.size w w2 := h2.below ((Below.refl _ _).alloc (Nat.le_refl _) _) (Nat.le_refl _)
  have bb2 := bb.below hb2 bb.lt
  have hs2 : w.heap.size < w2.heap.size := b4.lt
  clear h2
  generalize hp6 : w.heap.size = p6 at *
  have HP6 := Lib.hid hp6
  clear hp6
  have r4 := b4.cell
  have f4 := b4.free
  have rb := bb2.cell
  have bb3 : Blk (w2.setCell ⟨p6, 3, none⟩ (.slice none 0 0)) p _ _ := bb2.other (by show _ ≠ p6; omega) _
  have b43 : Blk (w2.setCell ⟨p6, 3, none⟩ (.slice none 0 0)) p6 #[.slice pa ps.length pc, .slice la ls.length lc, .slice ha hs'.length hc, .slice none 0 0] 27 := b4.set 3 _
  have hB3 : Below p6 w (w2.setCell ⟨p6, 3, none⟩ (.slice none 0 0)) := hb2.setCell (by show _ ≤ p6; omega) _
  go_wp2_with fail
  obtain ⟨w3, hw3⟩ : ∃ w3, w2.setCell ⟨p6, 3, none⟩ (.slice none 0 0) = w3 := ⟨_, rfl⟩
  rw [hw3] at bb3 b43 hB3
  rw [hw3]
  clear hw3 r4 f4 rb b4 bb2 hb2 hs2
  have hsq : p6 < w3.heap.size := b43.lt
  have b6s := b43
  have bbs := bb3
  have hBs := hB3
  clear b43 bb3 hB3
  go_loopw [15] (fun i wr => ∃ (k : Nat) (gv : Value), k ≤ ss.length ∧ i = .int .i64 k ∧ Off [p6] w3.heap.size w3 wr ∧ Blk wr p6 #[.slice pa ps.length pc, .slice la ls.length lc, .slice ha hs'.length hc, gv] 27 ∧ wr.ownsRow w3.heap.size 64 4 gv (selL ss s 0 k).length ((selL ss s 0 k).flatMap i4c)) (fun i _ => ss.length - (intOf i).toNat)
  case atStart => exact ⟨0, .slice none 0 0, by omega, rfl, Off.refl _ _ _, b6s, World.ownsRow_nil _ _ _ _⟩
  case round =>
    obtain ⟨k, gv, hk, rfl, hO, b6, hown⟩ := hrel
    have hsO := hO.size
    have hll := selL_len ss s 0 k
    by_cases hlt : k < ss.length
    · have hlti : (k : Int) < (ss.length : Int) := by omega
      obtain ⟨gb, go, rfl, e1, e2, e3, e4⟩ := hse.get4 hlt
      have hgb : gb < p6 := by have h := World.block_lt_of_cell? w _ e1; rw [HP6.out] at h; exact h
      have hcell : ∀ o, wr.cell? ⟨gb, o, none⟩ = w.cell? ⟨gb, o, none⟩ := fun o => (hO.cell (a := ⟨gb, o, none⟩) (by show gb < _; omega) (by show gb ∉ [p6]; simp; omega)).trans (hBs.cell (p := ⟨gb, o, none⟩) hgb)
      have i1 := (hcell _).trans e1
      have i2 := (hcell _).trans e2
      have i3 := (hcell _).trans e3
      have i4 := (hcell _).trans e4
      have hq := bit_i64 s (0 + k) hs9
      rw [bitI_hasB] at hq
      have HTK := Lib.hid (selL_yes ss s 0 k hlt)
      have HTN := Lib.hid (selL_no ss s 0 k)
      have r6 := b6.cell
      have f6 := b6.free
      have bbr := hO.blk bbs (by omega) (by simp; omega)
      have rb := bbr.cell
      have hb64 := b6.lt
      generalize ss[k] = x at *
      obtain ⟨x1, x2, x3, x4⟩ := x
      simp only at i1 i2 i3 i4
      clear e1 e2 e3 e4 hcell
      have hok : (0 + k : Nat) < 64 := by omega
      cases hb : hasB s (0 + k)
      · rw [hb] at hq
        simp only [Bool.false_eq_true, if_false] at hq
        rw [Nat.zero_add] at hq
        go_wp2_with fail
        exact ⟨⟨k + 1, gv, by omega, by go_num, hO.alloc hsO _, b6.alloc _, by rw [HTN.out hb]; exact World.ownsRow.alloc hown _⟩, by simp [intOf]; omega⟩
      · rw [hb] at hq
        simp only [if_true] at hq
        rw [Nat.zero_add] at hq
        go_wp2_with (first
          | (at_builtin; refine at_stop ?_))
        unfold Stop
        refine wpList_append_own _ rfl (.tmp 26) (.tmp 28) 25 rfl w3.heap.size 64 i0 (.agg #[.int .i64 0, .int .i64 0, .int .i64 0, .int .i64 0]) 4 32 Try.underlying25 hi0 hz0 hz1 hz2 rfl (by decide) gv (selL ss s 0 k).length ((selL ss s 0 k).flatMap i4c) rfl (World.ownsRow.alloc (World.ownsRow.alloc hown _) _) ⟨wr.heap.size + 1, 0, none⟩ 1 1 (i4c (x1, x2, x3, x4)) rfl rfl (news_blk (A := #[.int .i64 x1, .int .i64 x2, .int .i64 x3, .int .i64 x4]) (Blk.new' _ _ _ _ (by simp))) (by simp [i4c, Value.oneCell']) (by unfold maxLen; omega) (by omega) (by simp; omega) ?_
        intro v6 w6 hown6 hgrow6 _
        obtain ⟨g6, q6, rfl⟩ := own_slice hown6 (by omega)
        have hne : gv.ownBlock ≠ some p6 := fun e => by have := (hown.lt p6 e).1; omega
        have b66 : Blk w6 p6 _ _ := (hgrow6.block p6 (by simp; omega) (Ne.symm hne)).trans ((b6.alloc _).alloc _)
        have hO6 : Off [p6] w3.heap.size w3 w6 := (((hO.alloc hsO _).alloc (by simp; omega) _).grown hgrow6 (by simp; omega) (fun g hg => .inr (hown.lt g hg).1))
        have c6 : w6.cell? ⟨p6, 3, none⟩ = some gv := by rw [b66.cell]; simp
        have f6' : w6.frozen? ⟨p6, 3, none⟩ = false := b66.free 3
        clear r6 f6 hgrow6 i1 i2 i3 i4 rb
        go_wp2_with fail
        refine ⟨⟨k + 1, _, by omega, by go_num, hO6.setCell (.inl (by simp)) _, b66.set 3 _, ?_⟩, by simp [intOf]; omega⟩
        have hown7 := own_store hown6 (Nat.le_refl _) b66 (by decide) (fun j hj => Below.heap_setCell w6 ⟨p6, 3, none⟩ (.slice (some ⟨g6, 0, none⟩) ((selL ss s 0 k).length + 1) q6) j hj)
        rw [HTK.out hb, List.flatMap_append, List.length_append]
        simpa using hown7
    · have hlti : ¬ (k : Int) < (ss.length : Int) := by omega
      obtain rfl : k = ss.length := by omega
      have hBr : Below p6 w wr := hBs.trans (hO.below (by first | omega | (simp; done) | (simp; omega)) (by first | omega | (simp; done) | (simp; omega)))
      obtain ⟨g9, c9, rfl, hrs⟩ := own_rows i4c_len hown
      have hmr : MbAt wr ⟨ps, ls, hs', ss⟩ ⟨pa, pc, la, lc, ha, hc, sa, sc⟩ := hm.below (by rw [HP6.out]; exact hBr)
      have hCt := HC.out g9 c9 wr (by rw [HR.out]; exact ⟨hmr.places, hmr.legs, hmr.herds, hrs⟩)
      rw [HR.out] at hCt
      unfold mv mcells at hCt
      simp only at hCt
      clear HC HR hown hrs hO hBs bbs b6s hll hmr hm hse
      generalize (selL ss s 0 ss.length).length = n8 at *
      cases em
      all_goals
        go_wp2_with (first
          | (refine wpList_load_blk 27 (.tmp 4) agg_mob rfl rfl rfl b6 rfl ?_)
          | (go_at_call 15; refine hCt.mono ?_; rintro e w8 ⟨rfl, hb8⟩))
      all_goals go_ret
      all_goals
        refine ⟨rfl, ?_⟩
        rw [HP6.out]
        exact hBr.trans (hb8.mono (by have := b6.lt; omega))
end Go.Proofs.Yteeinehpneppnaa
