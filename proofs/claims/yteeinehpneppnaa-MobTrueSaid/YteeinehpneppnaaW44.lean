/- Parts of a proof: MvL, MvD. -/
import Derived.Test.YteeinehpneppnaaW43
import Derived.Test.YteeinehpneppnaaW27
import Derived.Test.YteeinehpneppnaaW28
import Derived.Test.YteeinehpneppnaaW32
import Derived.Test.YteeinehpneppnaaW39
import Derived.Test.YteeinehpneppnaaW30
/- MobTrue: what the program's functions return of a way that is right, in letters. -/
set_option linter.unusedVariables false
set_option linter.unusedSimpArgs false
namespace Go.Proofs.Yteeinehpneppnaa
open Go.RowKit Go.Proofs
attribute [local irreducible] Ord.walk
/-- All that the law MobTrue asks, in letters: mx the way, np places, nh mobs. -/
structure TrueC (mm mx : Value) (wx : World) (np nh day : Nat) (lv : Value) (st : Nat → Nat) (ln : Nat → Int) (dy : Nat → Nat → Int) (nw : Nat → Nat) (sf th : Nat → Int) (tl : Nat → List (Int × Int)) : Prop where
  clash : ∃ c : Int, ∀ W, Below wx.heap.size wx W → Calls Try.prog 17 #[mx] W (Gives2 (.int .i64 c) (.int .i64 4) W)
  there : ∃ su pe : Nat, su < 16 ∧ pe < 16 ∧ (∀ i, su.testBit i = true → pe.testBit i = true) ∧ (∀ i, i < nh → (dy i (np - 1) ≤ day → pe.testBit i = true) ∧ ((day : Int) < dy i (np - 1) → su.testBit i = false)) ∧
    ∀ W, Below wx.heap.size wx W → Calls Try.prog 15 #[mx, .int .i64 (day : Int)] W (Gives3 (.int .i64 (su : Int)) (.int .i64 (pe : Int)) (.int .i64 0) W)
  comes : ∀ i p : Nat, i < nh → st i ≤ p → p < np → ∃ lo hi : Int, lo ≤ dy i p ∧ dy i p ≤ hi ∧ ∀ W, Below wx.heap.size wx W → Calls Try.prog 22 #[mx, .int .i64 (i : Int), .int .i64 (p : Int)] W (Gives2 (.agg #[.int .i64 lo, .int .i64 hi]) (.int .i64 0) W)
  now : ∀ i : Nat, i < nh → ∃ set : Nat, set < 64 ∧ set.testBit (nw i) = true ∧ ∀ W, Below wx.heap.size wx W → Calls Try.prog 23 #[mx, .int .i64 (i : Int), .int .i64 (day : Int)] W (Gives2 (.int .i64 (set : Int)) (.int .i64 0) W)
  str : ∀ i : Nat, i < nh → ∃ lo hi : Int, lo ≤ sf i ∧ sf i ≤ hi ∧ ∀ W, Below wx.heap.size wx W → Calls Try.prog 24 #[mx, .int .i64 (i : Int)] W (Gives2 (.agg #[.int .i64 lo, .int .i64 hi]) (.int .i64 0) W)
  safe : ∀ i : Nat, i < nh → ∃ g : Int, ((g = 2 ∧ sf i ≤ th i) ∨ g = 1 ∨ (g = 0 ∧ th i < sf i)) ∧ ∀ W, Below wx.heap.size wx W → Calls Try.prog 25 #[mx, .int .i64 (i : Int)] W (Gives2 (.int .i64 g) (.int .i64 0) W)
  ahead : ∀ i k : Nat, i < nh → k < nh → ∃ g : Int, ((g = 2 ∧ dy i (np - 1) < dy k (np - 1)) ∨ g = 1 ∨ (g = 0 ∧ dy k (np - 1) ≤ dy i (np - 1))) ∧ ∀ W, Below wx.heap.size wx W → Calls Try.prog 13 #[mx, .int .i64 (i : Int), .int .i64 (k : Int)] W (Gives2 (.int .i64 g) (.int .i64 0) W)
  trip : ∀ i : Nat, i < nh → (∀ W, Below wx.heap.size wx W → Calls Try.prog 31 #[mm, .int .i64 (i : Int), lv, .int .i64 (ln i)] W (fun e w' => ∃ mp, e = .returned (.tuple #[.map (some mp), .int .i64 (sf i)]) ∧ MapII w' mp (tl i) ∧ W.heap.size ≤ mp ∧ Below W.heap.size W w')) ∧
    OkI (tl i) ∧ (tl i).length ≤ 6 ∧ st i + 2 ≤ np ∧ np ≤ 6 ∧ (∀ x, x ∈ tl i ↔ ∃ p, st i ≤ p ∧ p < np ∧ x = ((p : Int), dy i p)) ∧ getI (tl i) ((np - 1 : Nat) : Int) = dy i (np - 1)
  day0 : ∀ i p : Nat, i < nh → p < np → 0 ≤ dy i p ∧ dy i p ≤ 100
  sf0 : ∀ i, i < nh → 0 ≤ sf i ∧ sf i ≤ 1000
  nw0 : ∀ i, i < nh → st i ≤ nw i ∧ nw i < np ∧ (∀ p, st i ≤ p → p < np → dy i p ≤ day → p ≤ nw i) ∧ (nw i = st i ∨ dy i (nw i) ≤ day)
theorem day_seen (m : Mb) (S : List (Int × Int × Int × Int)) (L D : List Int) (i p : Nat) : dayAt (seenM m S) L D i p = dayAt m L D i p := inK_sub m S L _ _ _
theorem nowTo_seen (m : Mb) (S : List (Int × Int × Int × Int)) (L : List Int) (s : Nat) (d day : Int) : ∀ k, nowTo (seenM m S) L s d day k = nowTo m L s d day k
  | 0 => rfl
  | k + 1 => by
    simp only [nowTo]
    rw [show inK (seenM m S) L s d k = inK m L s d k from inK_sub m S L s d k, nowTo_seen m S L s d day k]
theorem true_c {m : Mb} {A : Ma} (hv : validM m = true) {L D : List Int} {S : List (Int × Int × Int × Int)} (hL : L ∈ prodL m.legs) (hD : D ∈ prodL (leavesL m)) (hS : SOk m L D S) (hl : S.length = m.seen.length) {day : Nat} (hd : day ≤ 100) {wx : World} (hm : MbAt wx m A) {sa la : Option Addr} {sc lc : Nat} (hr : RowsAt wx sa 4 i4c S) (hrL : IntsM wx la L) :
    TrueC (mv m A) (.agg #[.slice A.pa m.places.length A.pc, .slice A.la m.legs.length A.lc, .slice A.ha m.herds.length A.hc, .slice sa S.length sc]) wx m.places.length m.herds.length day (.slice la L.length lc) (startN m) (fun i => D.getD i 0) (dayAt m L D) (fun i => nowT m i day (L, D)) (fun i => strF m i L) (thirstI m)
      (fun i => tripL m L (startN m i) (D.getD i 0) (m.places.length - 1 - startN m i)) := by
  have hlen := validM_len hv
  have hS5 : S.length ≤ 5 := by omega
  have hvx := hS.valid hv hS5
  have hT := hS.mem hv hS5 hL hD
  have T := tf hvx hT (day := (day : Int)) (by omega)
  have hM : Mlen (seenM m S) := validM_Mlen hvx
  have hX : ∀ W, Below wx.heap.size wx W → MbAt W (seenM m S) ⟨A.pa, A.pc, A.la, A.lc, A.ha, A.hc, sa, sc⟩ := fun W hb => ⟨hm.places.below hb, hm.legs.below hb, hm.herds.below hb, hr.below hb⟩
  have htr := trOk_of hL hD
  refine ⟨?_, ?_, ?_, ?_, ?_, ?_, ?_, ?_, ?_, ?_, ?_⟩
  · obtain ⟨c, h⟩ := T.clash
    refine ⟨c, fun W hb => ?_⟩
    have := m_Clash W hM (hX W hb)
    rw [h] at this
    exact this
  · obtain ⟨su, pe, h, h1, h2, h3, h4⟩ := T.there
    simp only [day_seen] at h4
    refine ⟨su, pe, h1, h2, h3, h4, fun W hb => ?_⟩
    have := m_There (day : Int) W hM (hX W hb)
    rw [h] at this
    exact this
  · intro i p hi h1 h2
    obtain ⟨lo, hi', h, h3, h4⟩ := (T.herd i hi).comes p h1 h2
    rw [day_seen] at h3 h4
    refine ⟨lo, hi', h3, h4, fun W hb => ?_⟩
    have := m_Comes (i : Int) (p : Int) W hM (hX W hb)
    rw [h] at this
    exact this
  · intro i hi
    obtain ⟨set, h, h3, h4⟩ := (T.herd i hi).now
    have e : nowT (seenM m S) i day (L, D) = nowT m i day (L, D) := nowTo_seen m S L _ _ _ _
    rw [e] at h4
    refine ⟨set, h3, h4, fun W hb => ?_⟩
    have := m_Where (i : Int) (day : Int) W hM (hX W hb)
    rw [h] at this
    exact this
  · intro i hi
    obtain ⟨lo, hi', h, h3, h4⟩ := (T.herd i hi).str
    refine ⟨lo, hi', h3, h4, fun W hb => ?_⟩
    have := m_Stretch (i : Int) W hM (hX W hb)
    rw [h] at this
    exact this
  · intro i hi
    obtain ⟨g, h, h3⟩ := (T.herd i hi).safe
    refine ⟨g, h3, fun W hb => ?_⟩
    have := m_Safe (i : Int) W hM (hX W hb)
    rw [h] at this
    exact this
  · intro i k hi hk
    obtain ⟨g, h, h3⟩ := T.ahead i k hi hk
    simp only [day_seen] at h3
    refine ⟨g, h3, fun W hb => ?_⟩
    have := m_Ahead (i : Int) (k : Int) W hM (hX W hb)
    rw [h] at this
    exact this
  · intro i hi
    have hst := start_le hv hi
    have hb := day_in hv htr i
    refine ⟨fun W hW => ?_, tripL_ok m L _ _ _ (by omega), by rw [tripL_len]; omega, hst.1, hlen.2.1, fun x => ?_, ?_⟩
    · refine (l_trip i lc (D.getD i 0) W (hm.below hW) hv hi hL (hrL.below hW) hb.1 hb.2).mono ?_
      rintro e w' ⟨mp, h1, h2, h3, h4⟩
      exact ⟨mp, h1, h2, h3, h4⟩
    · rw [tripL_mem]
      constructor
      · rintro ⟨j, hj, rfl⟩
        refine ⟨startN m i + j, by omega, by omega, ?_⟩
        unfold dayAt
        rw [show startN m i + j - startN m i = j by omega]
      · rintro ⟨p, h1, h2, rfl⟩
        refine ⟨p - startN m i, by omega, ?_⟩
        unfold dayAt
        rw [show startN m i + (p - startN m i) = p by omega]
    · have := tripL_get m L (startN m i) (D.getD i 0) (k := m.places.length - 1 - startN m i) (j := m.places.length - 1 - startN m i) (by omega) (Nat.le_refl _)
      rw [show startN m i + (m.places.length - 1 - startN m i) = m.places.length - 1 by omega] at this
      rw [this]
      rfl
  · intro i p hi hp
    exact dayAt_in hv htr i p hp
  · intro i hi
    have hst := start_le hv hi
    have := dryF_in2 hv hL (startN m i) (m.places.length - 1 - startN m i) (by omega)
    unfold strF
    omega
  · intro i hi
    have hst := start_le hv hi
    have h1 := nowTo_in (m := m) L (startN m i) (D.getD i 0) day (m.places.length - startN m i) (by omega) (by omega)
    have h2 := now_max hv hL (s := startN m i) (D.getD i 0) day (m.places.length - startN m i) (by omega) (by omega)
    refine ⟨h1.1, h1.2, fun p h3 h4 h5 => ?_, ?_⟩
    · have := h2.1 (p - startN m i) (by omega) h5
      show p ≤ nowTo m L (startN m i) (D.getD i 0) day (m.places.length - startN m i)
      omega
    · rcases h2.2 with h | ⟨j, hj, h3, h4⟩
      · exact .inl h
      · right
        show inK m L (startN m i) (D.getD i 0) (nowTo m L (startN m i) (D.getD i 0) day (m.places.length - startN m i) - startN m i) ≤ day
        rw [h4, show startN m i + j - startN m i = j by omega]
        exact h3
end Go.Proofs.Yteeinehpneppnaa
/- Bits of small sets; what is left of a range over a map. -/
set_option linter.unusedVariables false
set_option linter.unusedSimpArgs false
namespace Go.Proofs.Yteeinehpneppnaa
open Go.RowKit Go.Proofs
attribute [local irreducible] Ord.walk
/-- A way that is valid has no long list. -/
theorem longB_okV {m : Mb} (hv : validM m = true) : longB m = false := by
  have := validM_len hv
  unfold longB
  simp only [decide_eq_false_iff_not]
  omega
/-- How many entries a range has had. -/
def seenLenI (w : World) (r : Nat) : Nat := match w.heap[r]? with
  | some (.mapIter _ _ seen _) => seen.size
  | _ => 0
theorem IterI.len {w : World} {r m n : Nat} {seen : List Nat} (h : IterI w r m n seen) : seenLenI w r = seen.length := by
  obtain ⟨c, _, h⟩ := h
  unfold seenLenI
  rw [h]
  simp
theorem seen_lenI {n : Nat} {seen : List Nat} (hn : seen.Nodup) (hl : ∀ i ∈ seen, i < n) : seen.length ≤ n := by
  have h1 : seen.Perm ((List.range n).filter fun i => decide (i ∈ seen)) := (List.perm_ext_iff_of_nodup hn (List.Pairwise.filter _ List.nodup_range)).2 fun i => by
    simp only [List.mem_filter, List.mem_range, decide_eq_true_eq]
    exact ⟨fun h => ⟨hl i h, h⟩, fun h => h.2⟩
  have h2 := h1.length_eq
  have h3 := List.length_filter_le (fun i => decide (i ∈ seen)) (List.range n)
  simp only [List.length_range] at h3
  omega
/-- No bit but those of another set. -/
theorem andNot_none {x y : Nat} (hx : x < 16) (hy : y < 16) (h : ∀ i, x.testBit i = true → y.testBit i = true) : bits .andNot .i64 (x : Int) (y : Int) = 0 := by
  rw [andNot_i64 x y (by omega) (by omega)]
  have : x ^^^ (x &&& y) = 0 := by
    refine Nat.eq_of_testBit_eq fun i => ?_
    have := h i
    simp only [Nat.testBit_xor, Nat.testBit_and, Nat.zero_testBit]
    cases h1 : x.testBit i <;> simp_all
  rw [this]
  rfl
/-- One bit of a set. -/
theorem bit_of {x p : Nat} (hx : x < 64) (hp : p < 6) : bits .and .i64 ((x : Int) / 2 ^ p) 1 = if x.testBit p = true then 1 else 0 := by
  have key : ∀ x : Nat, x < 64 → ∀ p : Nat, p < 6 → bits .and .i64 ((x : Int) / 2 ^ p) 1 = if x.testBit p = true then 1 else 0 := by decide +kernel
  exact key x hx p hp
theorem seen_moreI {n : Nat} {seen : List Nat} {i : Nat} (hn : seen.Nodup) (hl : ∀ i ∈ seen, i < n) (hi : i < n) (h : i ∉ seen) : (seen ++ [i]).Nodup ∧ (∀ j ∈ seen ++ [i], j < n) ∧ seen.length + 1 ≤ n := by
  have h1 : (seen ++ [i]).Nodup := by
    rw [List.nodup_append]
    exact ⟨hn, by simp, by intro a ha c hc e; simp at hc; subst hc; subst e; exact h ha⟩
  have h2 : ∀ j ∈ seen ++ [i], j < n := fun j hj => by
    rcases List.mem_append.1 hj with hj | hj
    · exact hl j hj
    · simp at hj; subst hj; exact hi
  have := seen_lenI h1 h2
  exact ⟨h1, h2, by simpa using this⟩
theorem IterI.off {w w' : World} {r m n z : Nat} {seen : List Nat} {T : List Nat} (h : IterI w r m n seen) (ho : Off T z w w') (hr : r < z) (ht : r ∉ T) : IterI w' r m n seen := by
  obtain ⟨c, hc, h⟩ := h
  exact ⟨c, hc, (ho.block r hr ht).trans h⟩
theorem MapII.off {w w' : World} {m z : Nat} {l : List (Int × Int)} {T : List Nat} (h : MapII w m l) (ho : Off T z w w') (hr : m < z) (ht : m ∉ T) : MapII w' m l := (ho.block m hr ht).trans h
theorem wpList_max2 {ops : Array Oper} {Q : Exit → Act → World → Prop} {o : Oper} {rest : List Oper} {a : Act} {w : World} (x y : Operand) (hgd : o.guard = none) (ho : o.op = .call { callee := .builtin .max, args := [x, y].toArray, argTypes := #[3, 3] }) {p q : Int} (hx : a.eval x = .int .i64 p) (hy : a.eval y = .int .i64 q)
    (hK : wpList Try.prog ops Q rest (a.put o.dst (.int .i64 (max p q))) w) : wpList Try.prog ops Q (o :: rest) a w := by
  refine wpList_plain hgd fun K' hK' => ?_
  have := hK' _ _ hK
  unfold Oper.wp
  generalize a.eval = ev at *
  simp [execOp, ho, hx, hy, Builtin.max_, go_sem, max2_run, Result.andThen]
  exact this
theorem ownsRow_offN {w w' : World} {base : Nat} {e : TypeId} {size : Nat} {v : Value} {n : Nat} {xs : List Value} {T : List Nat} (h : w.ownsRow base e size v n xs) (ho : Off T w.heap.size w w') (hT : ∀ g, v.ownBlock = some g → g ∉ T) : w'.ownsRow base e size v n xs := by
  obtain ⟨h1, h2⟩ := h
  refine ⟨h1, h2.imp id ?_⟩
  rintro ⟨g, cap, cur, rfl, hg, hh, r⟩
  exact ⟨g, cap, cur, rfl, hg, (ho.block g (Array.getElem?_eq_some_iff.1 hh).1 (hT g rfl)).trans hh, r⟩
theorem yields_ext {o : Oper} {a : Act} {W : World} {x : Operand} {ix : Nat} {vs : Array Value} {v : Value} (ho : o.op = .extract x ix) (hx : a.eval x = .tuple vs) (hv : vs[ix]? = some v) : Ord.yields Try.prog o a W v := by
  unfold Ord.yields
  simp [execOp, ho, hx, hv, Instr.extract, Ord.yieldUpon]
end Go.Proofs.Yteeinehpneppnaa
