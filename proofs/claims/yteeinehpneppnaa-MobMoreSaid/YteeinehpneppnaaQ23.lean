/- Parts of a proof: MoCA, MpS. -/
import Derived.Test.YteeinehpneppnaaQ13
import Derived.Test.YteeinehpneppnaaQ22
set_option linter.unusedVariables false
set_option linter.unusedSimpArgs false
namespace Go.Proofs.Yteeinehpneppnaa
open Go.RowKit Go.Proofs
attribute [local irreducible] Ord.walk
open Go.Sort Go.Shelf Go.Lib
theorem b_ones64 (x : Nat) (hx : x < 256) (w : World) :
    Calls Try.prog 100 #[.int .u64 x] w (Same (.int .i64 (Stab.pop x : Nat)) w) := by
  have h0 : (0 : Int) ≤ (x : Int) := by omega
  have h1 : (x : Int) ≤ 255 := by omega
  go_enter Try.func100, Try.ntmps100
  go_wp2
  go_ret
  refine ⟨ret_int ?_, rfl⟩
  clear h0 h1
  revert hx
  revert x
  decide +kernel
theorem b_ones (x : Nat) (hx : x < 256) (w : World) :
    Calls Try.prog 64 #[.int .u64 x] w (Same (.int .i64 (Stab.pop x : Nat)) w) := by
  have H := Lib.hid (fun W => b_ones64 x hx W)
  generalize Stab.pop x = p at *
  go_enter Try.func64, Try.ntmps64
  go_wp2_with (go_at_call 100; refine (H.out _).mono ?_; rintro e w' ⟨rfl, rfl⟩)
  go_ret
  exact ⟨rfl, rfl⟩
theorem pop_le (x : Nat) : Stab.pop x ≤ 8 := by unfold Stab.pop; omega
theorem b_cmp (x y : Nat) (hx : x < 256) (hy : y < 256) (w : World) :
    Calls Try.prog 63 #[.int .u64 x, .int .u64 y] w (Same (.int .i64 ((Stab.pop x : Int) - (Stab.pop y : Int))) w) := by
  have H : Hid (∀ z W, z < 256 → Calls Try.prog 64 #[.int .u64 (z : Nat)] W (Same (.int .i64 (Stab.pop z : Nat)) W)) := fun z W hz => b_ones z hz W
  have p1 := pop_le x
  have p2 := pop_le y
  go_enter Try.func63, Try.ntmps63
  go_wp2_with (go_at_call 64; refine (H.out _ _ (by assumption)).mono ?_; rintro e w' ⟨rfl, rfl⟩)
  go_ret
  exact ⟨rfl, rfl⟩

def enc8 (x : Fin 256) : Value := .int .u64 (x.val : Nat)
def cf8 (x y : Fin 256) : Int := (Stab.pop x.val : Int) - (Stab.pop y.val : Int)
theorem cmp8 (blk off size : Nat) (w : World) : CmpLays1 Try.prog 63 #[] enc8 cf8 blk off size w := by
  intro m os dk _ x y
  refine (b_cmp x.val y.val x.isLt y.isLt _).mono ?_
  rintro e w' ⟨rfl, rfl⟩
  exact ⟨rfl, 0, #[], by rw [grow_empty]; rfl⟩
theorem lt8 (x y : Fin 256) : ltOf cf8 x y = Stab.ltp x.val y.val := by
  unfold ltOf cf8 Stab.ltp
  rw [Bool.eq_iff_iff, decide_eq_true_iff, Nat.blt_eq]
  omega
namespace Stab
def to8 (l : List Nat) : List (Fin 256) := l.map (Fin.ofNat 256)
theorem coded_inj (l m : List (Fin 256)) (hl : l.length = m.length) (h : coded l = coded m) : l = m := by
  apply List.ext_getElem hl
  intro i h1 h2
  have a := coded_get l i
  have b := coded_get m i
  rw [h] at a
  rw [List.getElem?_eq_getElem h1, Option.getD_some] at a
  rw [List.getElem?_eq_getElem h2, Option.getD_some] at b
  exact Fin.ext (a.symm.trans b)
set_option maxRecDepth 100000 in
theorem bySize_all : ∀ k, k ≤ 8 → Stab.stable (natO (2 ^ k)) ltp (2 ^ k) (coded (to8 (List.range (2 ^ k)))) = coded (to8 (bySize k)) ∧ (bySize k).length = 2 ^ k ∧ (bySize k).all (fun x => Nat.blt x (2 ^ k)) = true := by
  intro k hk
  rcases (show k = 0 ∨ k = 1 ∨ k = 2 ∨ k = 3 ∨ k = 4 ∨ k = 5 ∨ k = 6 ∨ k = 7 ∨ k = 8 by omega) with rfl | rfl | rfl | rfl | rfl | rfl | rfl | rfl | rfl <;> decide +kernel
theorem stable_all (k : Nat) (hk : k ≤ 8) : Stab.stable (arrO (Fin 256)) (ltOf cf8) (2 ^ k) (to8 (List.range (2 ^ k))).toArray = (to8 (bySize k)).toArray := by
  obtain ⟨h1, h2, _⟩ := bySize_all k hk
  have hs := (sim_nat (2 ^ k) (ltOf cf8) ltp lt8).stable (2 ^ k) (s := (to8 (List.range (2 ^ k))).toArray) (t := coded (to8 (List.range (2 ^ k)))) ⟨by simp [to8], rfl⟩
  obtain ⟨h3, h4⟩ := hs
  rw [h1] at h4
  have := coded_inj _ _ (by rw [Array.length_toList, h3]; simp [to8, h2]) h4
  apply Array.toList_inj.1
  exact this
end Stab
def u64V (n : Nat) : Value := .int .u64 (n : Nat)
/-- A row of uints. -/
def USl (w : World) (g : Nat) (l : List Nat) : Prop := ∀ i, (h : i < l.length) → w.cell? ⟨g, i, none⟩ = some (.int .u64 (l[i] : Nat))
theorem USl.below {w w' : World} {g : Nat} {l : List Nat} {n : Nat} (h : USl w g l) (hb : Below n w w') (hg : g < n) : USl w' g l := fun i hi => (hb.cell (p := ⟨g, i, none⟩) hg).trans (h i hi)
theorem below_sort {α : Type} [Inhabited α] (enc : α → Value) (w : World) (g n : Nat) (d : Array α) (os : Array Obj) (base : Nat) (hb : base ≤ g) (hg : g < w.heap.size) : Below base w (sortWorld enc w g 0 n d os) := by
  refine ⟨rfl, rfl, rfl, ?_, ?_⟩
  · unfold sortWorld; rw [size_grow, size_putRow]; show w.heap.size ≤ w.heap.size + _; omega
  · intro k hk
    show ((putRow enc (Sort.ahead w n) g 0 d).heap ++ os)[k]? = _
    rw [Array.getElem?_append_left (by rw [size_putRow]; show k < w.heap.size; omega)]
    show (w.heap.modify g _)[k]? = _
    rw [Array.getElem?_modify, if_neg (by omega)]
def SortedAll (g k : Nat) (w : World) (e : Ending) (w' : World) : Prop := e = .returned (.tuple #[]) ∧ Below g w w' ∧ USl w' g (Stab.bySize k) ∧ g < w'.heap.size
theorem m_sortAll (w : World) (k g cap : Nat) (cur : Array Value) (hk : k ≤ 8) (hB : Blk w g cur 87) (hcur : ∀ j, j < 2 ^ k → cur[j]? = some (u64V j)) :
    Calls Try.prog 62 #[.slice (some ⟨g, 0, none⟩) (2 ^ k : Nat) cap, .func (.func 63) #[] #[]] w (SortedAll g k w) := by
  have hp : 0 < 2 ^ k := Nat.pow_pos (by omega)
  have hp8 : 2 ^ k ≤ 2 ^ 8 := Nat.pow_le_pow_right (by omega) hk
  have e8 : (2 : Nat) ^ 8 = 256 := rfl
  have hsz : (Stab.to8 (List.range (2 ^ k))).toArray.size = 2 ^ k := by simp [Stab.to8]
  have hH : Holds enc8 w g 0 (Stab.to8 (List.range (2 ^ k))).toArray := by
    intro j hj
    rw [hsz] at hj
    refine ⟨?_, ?_⟩
    · rw [Nat.zero_add, hB.cell, hcur j hj]
      congr 1
      have : (Stab.to8 (List.range (2 ^ k))).toArray[j]! = Fin.ofNat 256 j := by
        rw [getElem!_pos _ j (by rw [hsz]; exact hj)]; simp [Stab.to8]
      rw [this]
      show Value.int .u64 (j : Nat) = Value.int .u64 ((Fin.ofNat 256 j).val : Nat)
      rw [Fin.val_ofNat, Nat.mod_eq_of_lt (by omega)]
    · rw [Nat.zero_add]; exact hB.free j
  have R : Row1 enc8 w g 0 (Stab.to8 (List.range (2 ^ k))).toArray := ⟨fun _ => rfl, hH, hB.lt⟩
  have eg : ∀ args w, (callFunc 63 args).run Try.prog w = .ok (.enter 63 args) w := fun args W => Try.call63 args W
  refine (sortStable_w enc8 cf8 63 #[] g 0 cap (2 ^ k) _ (Stab.to8 (List.range (2 ^ k))).toArray w w eg (cmp8 g 0 _ w) R hsz hsz (by omega) (SW.start hH)).mono ?_
  rintro e w' ⟨rfl, S⟩
  rw [Stab.stable_all k hk] at S
  have hH2 := S.holds hB.lt hH (by simp [Stab.to8, (Stab.bySize_all k hk).2.1])
  refine ⟨rfl, ?_, ?_, S.lt hB.lt⟩
  · obtain ⟨n, os, rfl⟩ := S
    exact below_sort enc8 w g n _ os g (Nat.le_refl _) hB.lt
  · intro i hi
    have := (hH2 i (by simpa [Stab.to8] using hi)).1
    rw [Nat.zero_add] at this
    rw [this]
    congr 1
    have hb := List.all_eq_true.1 (Stab.bySize_all k hk).2.2 _ (List.getElem_mem hi)
    rw [Nat.blt_eq] at hb
    rw [getElem!_pos _ i (by simpa [Stab.to8] using hi)]
    show Value.int .u64 (((Stab.to8 (Stab.bySize k)).toArray[i]'(by simpa [Stab.to8] using hi)).val : Nat) = _
    simp only [Stab.to8, List.getElem_toArray, List.getElem_map, Fin.val_ofNat]
    rw [Nat.mod_eq_of_lt (by omega)]

set_option maxHeartbeats 1000000 in
set_option maxRecDepth 100000 in
theorem m_idx (F : FuncId) (cb : Array Value) (p : Nat → Bool) (l : List Nat) (g cap n : Nat) (r : Int) (w : World) (hl : l.length ≤ 256) (hx : ∀ x ∈ l, x < 256) (hn : n ≤ l.length) (hlo : ∀ j, (h : j < n) → p (l[j]'(by omega)) = false) (hhi : (h : n < l.length) → p l[n] = true) (hr1 : n < l.length → r = n) (hr2 : n = l.length → r = -1)
    (hcf : ∀ (args : Array Value) (W : World), (callFunc F args).run Try.prog W = .ok (.enter F args) W) (hU : USl w g l) (hg : g < w.heap.size)
    (W0 : World) (mb : Nat) (m : Mb) (hmb : mb < W0.heap.size) (hW : Way W0 mb m w) (hgb : W0.heap.size ≤ g)
    (HP : ∀ w' x, Way W0 mb m w' → Lets (fun j _ => j = mb) w w' → x < 256 → Calls Try.prog F (#[.int .u64 (x : Nat)] ++ cb) w' (GivesW W0 mb m (.bool (p x)) w')) :
    Calls Try.prog 65 #[.slice (some ⟨g, 0, none⟩) l.length cap, .func (.func F) #[] cb] w (GivesW W0 mb m (.int .i64 r) w) := by
  have HU := Lib.hid hU
  have HPP := Lib.hid HP
  have HX := Lib.hid hx
  have HLO := Lib.hid hlo
  have HHI := Lib.hid hhi
  have HR1 := Lib.hid hr1
  have HR2 := Lib.hid hr2
  have hlU : ∀ w', Lets (fun j _ => j = mb) w w' → USl w' g l := fun w' hl i hi => hl.cell (hU i hi) (fun e => by simp only at e; omega)
  have HLU := Lib.hid hlU
  clear hU HP hx hlo hhi hr1 hr2 hlU
  go_enter Try.func65, Try.ntmps65
  go_wp2_with fail
  go_loopw [8] (fun i wr => ∃ k : Nat, k ≤ n ∧ i = .int .i64 k ∧ Way W0 mb m wr ∧ Lets (fun j _ => j = mb) w wr) (fun i _ => n + 1 - (intOf i).toNat)
  case atStart => exact ⟨0, by omega, rfl, hW, Lets.refl _ _⟩
  case round =>
    obtain ⟨k, hk, rfl, hWw, hbw⟩ := hrel
    by_cases hlt : k < l.length
    · have hlti : (k : Int) < (l.length : Int) := by omega
      have cu := HLU.out wr hbw k hlt
      have HPk := Lib.hid (HPP.out wr (l[k]) hWw hbw (HX.out _ (List.getElem_mem hlt)))
      obtain ⟨x, hxk⟩ : ∃ x, l[k] = x := ⟨_, rfl⟩
      by_cases hkn : k < n
      · have hpf := HLO.out k hkn
        rw [hpf] at HPk
        rw [hxk] at HPk cu
        clear hpf hxk
        go_wp2_with fail
        refine HPk.out.mono ?_
        rintro e w2 ⟨rfl, hW2, hb2⟩
        go_wp2_with fail
        exact ⟨⟨k + 1, by omega, by go_num, hW2, hbw.trans hb2⟩, by simp [intOf]; omega⟩
      · have e : k = n := by omega
        subst e
        have hpt := HHI.out hlt
        rw [hpt] at HPk
        rw [hxk] at HPk cu
        clear hpt hxk
        go_wp2_with fail
        refine HPk.out.mono ?_
        rintro e w2 ⟨rfl, hW2, hb2⟩
        go_wp2_with fail
        go_ret
        have e3 := HR1.out hlt
        subst e3
        exact ⟨rfl, hW2, hbw.trans hb2⟩
    · have hlti : ¬ (k : Int) < (l.length : Int) := by omega
      have e : k = n := by omega
      subst e
      have e2 : k = l.length := by omega
      have hr := HR2.out e2
      clear HR1 HR2 HLO HHI
      go_wp2_with fail
      go_ret
      subst hr
      exact ⟨rfl, hWw, hbw⟩

set_option maxHeartbeats 4000000 in
set_option maxRecDepth 100000 in
theorem m_clash3 {m : Mb} {A : Ma} {pa : Option Addr} {pc wp mb : Nat} {W0 : World} (hv : validM m = true) (hO : Opened W0 wp m A pa pc mb) (p4 : Nat) (x : Nat) (hx : x < 256) (w : World) (hW : Way W0 mb m w) (hp : w.cell? ⟨p4, 0, none⟩ = some (.pointer (some ⟨wp, 0, none⟩))) :
    Calls Try.prog 66 #[.int .u64 (x : Nat), .pointer (some ⟨p4, 0, none⟩)] w (GivesW W0 mb m (.bool (!canM m x)) w) := by
  have HC := Lib.hid (fun w' (hW : Way W0 mb m w') => m_can hv hO x (by omega) w' hW)
  generalize canM m x = c at *
  go_enter Try.func66, Try.ntmps66
  go_wp2_with (first
    | (go_at_call 67; refine (HC.out _ hW).mono ?_; rintro e w1 ⟨rfl, hW1, hl1⟩))
  go_ret
  exact ⟨rfl, hW1, hl1⟩
end Go.Proofs.Yteeinehpneppnaa
set_option linter.unusedVariables false
set_option linter.unusedSimpArgs false
namespace Go.Proofs.Yteeinehpneppnaa
open Go.RowKit Go.Proofs
attribute [local irreducible] Ord.walk
def bestF (f : Nat → Bool) (b : Nat) : Nat → Nat
  | 0 => b
  | k + 1 => if sz k < sz (bestF f b k) ∧ f k = true then k else bestF f b k
theorem sz_pop : ∀ x, x < 256 → sz x = Stab.pop x := by decide +kernel
set_option maxRecDepth 100000 in
theorem pop_pow : ∀ k, k ≤ 8 → (List.range (2 ^ k)).all (fun x => Nat.ble (Stab.pop x) k && (Nat.beq x (2 ^ k - 1) || Nat.blt (Stab.pop x) k)) = true := by
  intro k hk
  rcases (show k = 0 ∨ k = 1 ∨ k = 2 ∨ k = 3 ∨ k = 4 ∨ k = 5 ∨ k = 6 ∨ k = 7 ∨ k = 8 by omega) with rfl | rfl | rfl | rfl | rfl | rfl | rfl | rfl | rfl <;> decide +kernel
theorem pop_le_k {k x : Nat} (hk : k ≤ 8) (hx : x < 2 ^ k) : Stab.pop x ≤ k := by
  have := List.all_eq_true.1 (pop_pow k hk) x (List.mem_range.2 hx)
  rw [Bool.and_eq_true, Nat.ble_eq] at this
  exact this.1
theorem pop_lt_k {k x : Nat} (hk : k ≤ 8) (hx : x < 2 ^ k) (hne : x ≠ 2 ^ k - 1) : Stab.pop x < k := by
  have := List.all_eq_true.1 (pop_pow k hk) x (List.mem_range.2 hx)
  simp only [Bool.and_eq_true, Bool.or_eq_true, Nat.ble_eq, Nat.beq_eq, Nat.blt_eq] at this
  rcases this.2 with h | h
  · exact absurd h hne
  · exact h
theorem mem_bySize {k x : Nat} (hk : k ≤ 8) : x ∈ Stab.bySize k ↔ x < 2 ^ k := by
  unfold Stab.bySize
  simp only [List.mem_flatMap, List.mem_filter, List.mem_range, beq_iff_eq]
  constructor
  · rintro ⟨s, _, h, _⟩; exact h
  · intro h; exact ⟨Stab.pop x, by have := pop_le_k hk h; omega, h, rfl⟩
theorem bySize_pair (k : Nat) : (Stab.bySize k).Pairwise fun x y => Stab.pop x < Stab.pop y ∨ (Stab.pop x = Stab.pop y ∧ x < y) := by
  unfold Stab.bySize
  rw [List.pairwise_flatMap]
  refine ⟨fun s _ => ?_, ?_⟩
  · refine List.Pairwise.imp_of_mem ?_ (List.Pairwise.filter _ List.pairwise_lt_range)
    intro x y hx hy h
    have h1 := (List.mem_filter.1 hx).2
    have h2 := (List.mem_filter.1 hy).2
    simp only [beq_iff_eq] at h1 h2
    right; omega
  · refine List.Pairwise.imp ?_ List.pairwise_lt_range
    intro s t hst x hx y hy
    have h1 := (List.mem_filter.1 hx).2
    have h2 := (List.mem_filter.1 hy).2
    simp only [beq_iff_eq] at h1 h2
    left; omega
/-- The first of a row that is sorted is the least. -/
theorem find_least {l : List Nat} {R : Nat → Nat → Prop} (hl : l.Pairwise R) {p : Nat → Bool} {y : Nat} (hy : y ∈ l) (hp : p y = true) (hm : ∀ x, R x y → p x = false) : l.find? p = some y := by
  induction l with
  | nil => simp at hy
  | cons a l ih =>
    rw [List.pairwise_cons] at hl
    rcases List.mem_cons.1 hy with rfl | hy
    · simp [hp]
    · rw [List.find?_cons, hm a (hl.1 y hy)]
      exact ih hl.2 hy
theorem bestF_prop (f : Nat → Bool) (K : Nat) (hK : K ≤ 8) (hf : f (2 ^ K - 1) = true) : ∀ k, k ≤ 2 ^ K →
    f (bestF f (2 ^ K - 1) k) = true ∧ bestF f (2 ^ K - 1) k < 2 ^ K ∧ ∀ x, x < k → f x = true → sz (bestF f (2 ^ K - 1) k) < sz x ∨ (sz (bestF f (2 ^ K - 1) k) = sz x ∧ bestF f (2 ^ K - 1) k ≤ x) := by
  have hp8 : 2 ^ K ≤ 2 ^ 8 := Nat.pow_le_pow_right (by omega) hK
  have e8 : (2 : Nat) ^ 8 = 256 := rfl
  have hp0 : 0 < 2 ^ K := Nat.two_pow_pos K
  intro k
  induction k with
  | zero => intro _; exact ⟨hf, by show 2 ^ K - 1 < 2 ^ K; omega, fun x hx => absurd hx (by omega)⟩
  | succ k ih =>
    intro hk
    obtain ⟨h1, h2, h3⟩ := ih (by omega)
    rw [bestF]
    by_cases hc : sz k < sz (bestF f (2 ^ K - 1) k) ∧ f k = true
    · rw [if_pos hc]
      refine ⟨hc.2, by omega, fun x hx hfx => ?_⟩
      rcases Nat.lt_or_ge x k with h | h
      · rcases h3 x h hfx with h | ⟨h, _⟩ <;> left <;> omega
      · right
        have : x = k := by omega
        subst this; exact ⟨rfl, Nat.le_refl _⟩
    · rw [if_neg hc]
      refine ⟨h1, h2, fun x hx hfx => ?_⟩
      rcases Nat.lt_or_ge x k with h | h
      · exact h3 x h hfx
      · have : x = k := by omega
        subst this
        have hn : ¬ sz x < sz (bestF f (2 ^ K - 1) x) := fun h => hc ⟨h, hfx⟩
        rcases Nat.lt_or_ge (sz (bestF f (2 ^ K - 1) x)) (sz x) with h | h
        · exact .inl h
        · have he : sz (bestF f (2 ^ K - 1) x) = sz x := by omega
          -- the best so far is either below x, or all there are
          right
          refine ⟨he, ?_⟩
          rcases Nat.lt_or_ge x (bestF f (2 ^ K - 1) x) with h' | h'
          · exfalso
            -- then it is all there are
            have hall : ∀ j, j ≤ x → bestF f (2 ^ K - 1) j = 2 ^ K - 1 ∨ bestF f (2 ^ K - 1) j < j := by
              intro j
              induction j with
              | zero => intro _; left; rfl
              | succ j ihj =>
                intro hj
                rw [bestF]
                split
                · right; omega
                · rcases ihj (by omega) with h | h
                  · left; exact h
                  · right; omega
            rcases hall x (Nat.le_refl _) with h4 | h4
            · rw [h4] at he h'
              have := pop_lt_k hK (show x < 2 ^ K by omega) (by omega)
              have h5 := pop_le_k hK (show 2 ^ K - 1 < 2 ^ K by omega)
              rw [sz_pop _ (by omega), sz_pop _ (by omega)] at he
              have h6 : Stab.pop (2 ^ K - 1) = K := by
                clear h1 h2 h3 hc hn he h' h4 this h5 ih hk hfx hx h hall
                rcases (show K = 0 ∨ K = 1 ∨ K = 2 ∨ K = 3 ∨ K = 4 ∨ K = 5 ∨ K = 6 ∨ K = 7 ∨ K = 8 by omega) with rfl | rfl | rfl | rfl | rfl | rfl | rfl | rfl | rfl <;> decide
              omega
            · omega
          · exact h'
theorem clash_find (f : Nat → Bool) (K : Nat) (hK : K ≤ 8) (hf : f (2 ^ K - 1) = true) : (Stab.bySize K).find? f = some (bestF f (2 ^ K - 1) (2 ^ K)) := by
  have hp8 : 2 ^ K ≤ 2 ^ 8 := Nat.pow_le_pow_right (by omega) hK
  have e8 : (2 : Nat) ^ 8 = 256 := rfl
  obtain ⟨h1, h2, h3⟩ := bestF_prop f K hK hf (2 ^ K) (Nat.le_refl _)
  refine find_least (R := fun x y => x < 2 ^ K ∧ (Stab.pop x < Stab.pop y ∨ (Stab.pop x = Stab.pop y ∧ x < y))) ?_ ((mem_bySize hK).2 h2) h1 ?_
  · exact List.Pairwise.imp_of_mem (fun hx _ h => ⟨(mem_bySize hK).1 hx, h⟩) (bySize_pair K)
  · rintro x ⟨hx, h⟩
    cases hfx : f x
    · rfl
    · exfalso
      have := h3 x hx hfx
      rw [sz_pop _ (by omega), sz_pop _ (by omega)] at this
      omega
end Go.Proofs.Yteeinehpneppnaa
