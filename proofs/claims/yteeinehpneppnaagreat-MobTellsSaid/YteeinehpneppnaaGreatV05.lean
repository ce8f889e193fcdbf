/- Parts of a proof: MoCA, MpS, MoV, MoZ, MoZB. -/
import Derived.Test.YteeinehpneppnaaGreatMoJ
import Derived.Test.YteeinehpneppnaaGreatV04
import Derived.Test.YteeinehpneppnaaGreatMoU
import Derived.Test.YteeinehpneppnaaGreatV02
/- How many bits are set: math/bits.OnesCount; the comparison that Clash sorts by; what the sorted row holds. -/
set_option linter.unusedVariables false
set_option linter.unusedSimpArgs false
namespace Go.Proofs.YteeinehpneppnaaGreat
open Go.RowKit Go.Proofs
attribute [local irreducible] Ord.walk
open Go.Sort Go.Shelf Go.Lib
theorem b_ones64 (x : Nat) (hx : x < 256) (w : World) :
    Calls Tryz.prog 91 #[.int .u64 x] w (Same (.int .i64 (Stab.pop x : Nat)) w) := by
  have h0 : (0 : Int) ≤ (x : Int) := by omega
  have h1 : (x : Int) ≤ 255 := by omega
  go_enter Tryz.func91, Tryz.ntmps91
  go_wp2
  go_ret
  refine ⟨ret_int ?_, rfl⟩
  clear h0 h1
  revert hx
  revert x
  decide +kernel
theorem b_ones (x : Nat) (hx : x < 256) (w : World) :
    Calls Tryz.prog 69 #[.int .u64 x] w (Same (.int .i64 (Stab.pop x : Nat)) w) := by
  have H := Lib.hid (fun W => b_ones64 x hx W)
  generalize Stab.pop x = p at *
  go_enter Tryz.func69, Tryz.ntmps69
  go_wp2_with (go_at_call 91; refine (H.out _).mono ?_; rintro e w' ⟨rfl, rfl⟩)
  go_ret
  exact ⟨rfl, rfl⟩
theorem pop_le (x : Nat) : Stab.pop x ≤ 8 := by unfold Stab.pop; omega
theorem b_cmp (x y : Nat) (hx : x < 256) (hy : y < 256) (w : World) :
    Calls Tryz.prog 68 #[.int .u64 x, .int .u64 y] w (Same (.int .i64 ((Stab.pop x : Int) - (Stab.pop y : Int))) w) := by
  have H : Hid (∀ z W, z < 256 → Calls Tryz.prog 69 #[.int .u64 (z : Nat)] W (Same (.int .i64 (Stab.pop z : Nat)) W)) := fun z W hz => b_ones z hz W
  have p1 := pop_le x
  have p2 := pop_le y
  go_enter Tryz.func68, Tryz.ntmps68
  go_wp2_with (go_at_call 69; refine (H.out _ _ (by assumption)).mono ?_; rintro e w' ⟨rfl, rfl⟩)
  go_ret
  exact ⟨rfl, rfl⟩

def enc8 (x : Fin 256) : Value := .int .u64 (x.val : Nat)
def cf8 (x y : Fin 256) : Int := (Stab.pop x.val : Int) - (Stab.pop y.val : Int)
theorem cmp8 (blk off size : Nat) (w : World) : CmpLays1 Tryz.prog 68 #[] enc8 cf8 blk off size w := by
  intro m os dk _ x y
  refine (b_cmp x.val y.val x.isLt y.isLt _).mono ?_
  rintro e w' ⟨rfl, rfl⟩
  exact ⟨rfl, 0, #[], by rw [grow_empty]; rfl⟩
theorem lt8 (x y : Fin 256) : ltOf cf8 x y = Stab.ltp x.val y.val := by
  unfold ltOf cf8 Stab.ltp
  rw [Bool.eq_iff_iff, decide_eq_true_iff, Nat.blt_eq]
  omega
namespace Stab
def to8 (l : List Nat) : List (Fin 256) := l.map (Fin.ofNat 256)
theorem coded_inj (l m : List (Fin 256)) (hl : l.length = m.length) (h : coded l = coded m) : l = m := by
  apply List.ext_getElem hl
  intro i h1 h2
  have a := coded_get l i
  have b := coded_get m i
  rw [h] at a
  rw [List.getElem?_eq_getElem h1, Option.getD_some] at a
  rw [List.getElem?_eq_getElem h2, Option.getD_some] at b
  exact Fin.ext (a.symm.trans b)
set_option maxRecDepth 100000 in
theorem bySize_all : ∀ k, k ≤ 8 → Stab.stable (natO (2 ^ k)) ltp (2 ^ k) (coded (to8 (List.range (2 ^ k)))) = coded (to8 (bySize k)) ∧ (bySize k).length = 2 ^ k ∧ (bySize k).all (fun x => Nat.blt x (2 ^ k)) = true := by
  intro k hk
  rcases (show k = 0 ∨ k = 1 ∨ k = 2 ∨ k = 3 ∨ k = 4 ∨ k = 5 ∨ k = 6 ∨ k = 7 ∨ k = 8 by omega) with rfl | rfl | rfl | rfl | rfl | rfl | rfl | rfl | rfl <;> decide +kernel
theorem stable_all (k : Nat) (hk : k ≤ 8) : Stab.stable (arrO (Fin 256)) (ltOf cf8) (2 ^ k) (to8 (List.range (2 ^ k))).toArray = (to8 (bySize k)).toArray := by
  obtain ⟨h1, h2, _⟩ := bySize_all k hk
  have hs := (sim_nat (2 ^ k) (ltOf cf8) ltp lt8).stable (2 ^ k) (s := (to8 (List.range (2 ^ k))).toArray) (t := coded (to8 (List.range (2 ^ k)))) ⟨by simp [to8], rfl⟩
  obtain ⟨h3, h4⟩ := hs
  rw [h1] at h4
  have := coded_inj _ _ (by rw [Array.length_toList, h3]; simp [to8, h2]) h4
  apply Array.toList_inj.1
  exact this
end Stab
def u64V (n : Nat) : Value := .int .u64 (n : Nat)
/-- A row of uints. -/
def USl (w : World) (g : Nat) (l : List Nat) : Prop := ∀ i, (h : i < l.length) → w.cell? ⟨g, i, none⟩ = some (.int .u64 (l[i] : Nat))
theorem USl.below {w w' : World} {g : Nat} {l : List Nat} {n : Nat} (h : USl w g l) (hb : Below n w w') (hg : g < n) : USl w' g l := fun i hi => (hb.cell (p := ⟨g, i, none⟩) hg).trans (h i hi)
theorem below_sort {α : Type} [Inhabited α] (enc : α → Value) (w : World) (g n : Nat) (d : Array α) (os : Array Obj) (base : Nat) (hb : base ≤ g) (hg : g < w.heap.size) : Below base w (sortWorld enc w g 0 n d os) := by
  refine ⟨rfl, rfl, rfl, ?_, ?_⟩
  · unfold sortWorld; rw [size_grow, size_putRow]; show w.heap.size ≤ w.heap.size + _; omega
  · intro k hk
    show ((putRow enc (Sort.ahead w n) g 0 d).heap ++ os)[k]? = _
    rw [Array.getElem?_append_left (by rw [size_putRow]; show k < w.heap.size; omega)]
    show (w.heap.modify g _)[k]? = _
    rw [Array.getElem?_modify, if_neg (by omega)]
def SortedAll (g k : Nat) (w : World) (e : Ending) (w' : World) : Prop := e = .returned (.tuple #[]) ∧ Below g w w' ∧ USl w' g (Stab.bySize k) ∧ g < w'.heap.size
theorem m_sortAll (w : World) (k g cap : Nat) (cur : Array Value) (hk : k ≤ 8) (hB : Blk w g cur 62) (hcur : ∀ j, j < 2 ^ k → cur[j]? = some (u64V j)) :
    Calls Tryz.prog 67 #[.slice (some ⟨g, 0, none⟩) (2 ^ k : Nat) cap, .func (.func 68) #[] #[]] w (SortedAll g k w) := by
  have hp : 0 < 2 ^ k := Nat.pow_pos (by omega)
  have hp8 : 2 ^ k ≤ 2 ^ 8 := Nat.pow_le_pow_right (by omega) hk
  have e8 : (2 : Nat) ^ 8 = 256 := rfl
  have hsz : (Stab.to8 (List.range (2 ^ k))).toArray.size = 2 ^ k := by simp [Stab.to8]
  have hH : Holds enc8 w g 0 (Stab.to8 (List.range (2 ^ k))).toArray := by
    intro j hj
    rw [hsz] at hj
    refine ⟨?_, ?_⟩
    · rw [Nat.zero_add, hB.cell, hcur j hj]
      congr 1
      have : (Stab.to8 (List.range (2 ^ k))).toArray[j]! = Fin.ofNat 256 j := by
        rw [getElem!_pos _ j (by rw [hsz]; exact hj)]; simp [Stab.to8]
      rw [this]
      show Value.int .u64 (j : Nat) = Value.int .u64 ((Fin.ofNat 256 j).val : Nat)
      rw [Fin.val_ofNat, Nat.mod_eq_of_lt (by omega)]
    · rw [Nat.zero_add]; exact hB.free j
  have R : Row1 enc8 w g 0 (Stab.to8 (List.range (2 ^ k))).toArray := ⟨fun _ => rfl, hH, hB.lt⟩
  have eg : ∀ args w, (callFunc 68 args).run Tryz.prog w = .ok (.enter 68 args) w := fun args W => Tryz.call68 args W
  refine (sortStable_w enc8 cf8 68 #[] g 0 cap (2 ^ k) _ (Stab.to8 (List.range (2 ^ k))).toArray w w eg (cmp8 g 0 _ w) R hsz hsz (by omega) (SW.start hH)).mono ?_
  rintro e w' ⟨rfl, S⟩
  rw [Stab.stable_all k hk] at S
  have hH2 := S.holds hB.lt hH (by simp [Stab.to8, (Stab.bySize_all k hk).2.1])
  refine ⟨rfl, ?_, ?_, S.lt hB.lt⟩
  · obtain ⟨n, os, rfl⟩ := S
    exact below_sort enc8 w g n _ os g (Nat.le_refl _) hB.lt
  · intro i hi
    have := (hH2 i (by simpa [Stab.to8] using hi)).1
    rw [Nat.zero_add] at this
    rw [this]
    congr 1
    have hb := List.all_eq_true.1 (Stab.bySize_all k hk).2.2 _ (List.getElem_mem hi)
    rw [Nat.blt_eq] at hb
    rw [getElem!_pos _ i (by simpa [Stab.to8] using hi)]
    show Value.int .u64 (((Stab.to8 (Stab.bySize k)).toArray[i]'(by simpa [Stab.to8] using hi)).val : Nat) = _
    simp only [Stab.to8, List.getElem_toArray, List.getElem_map, Fin.val_ofNat]
    rw [Nat.mod_eq_of_lt (by omega)]

set_option maxHeartbeats 1000000 in
set_option maxRecDepth 100000 in
theorem m_idx (F : FuncId) (cb : Array Value) (p : Nat → Bool) (l : List Nat) (g cap n : Nat) (r : Int) (w : World) (hl : l.length ≤ 256) (hx : ∀ x ∈ l, x < 256) (hn : n ≤ l.length) (hlo : ∀ j, (h : j < n) → p (l[j]'(by omega)) = false) (hhi : (h : n < l.length) → p l[n] = true) (hr1 : n < l.length → r = n) (hr2 : n = l.length → r = -1)
    (hcf : ∀ (args : Array Value) (W : World), (callFunc F args).run Tryz.prog W = .ok (.enter F args) W) (hU : USl w g l) (hg : g < w.heap.size)
    (W0 : World) (mb : Nat) (m : Mb) (hmb : mb < W0.heap.size) (hW : Way W0 mb m w) (hgb : W0.heap.size ≤ g)
    (HP : ∀ w' x, Way W0 mb m w' → Lets (fun j _ => j = mb) w w' → x < 256 → Calls Tryz.prog F (#[.int .u64 (x : Nat)] ++ cb) w' (GivesW W0 mb m (.bool (p x)) w')) :
    Calls Tryz.prog 70 #[.slice (some ⟨g, 0, none⟩) l.length cap, .func (.func F) #[] cb] w (GivesW W0 mb m (.int .i64 r) w) := by
  have HU := Lib.hid hU
  have HPP := Lib.hid HP
  have HX := Lib.hid hx
  have HLO := Lib.hid hlo
  have HHI := Lib.hid hhi
  have HR1 := Lib.hid hr1
  have HR2 := Lib.hid hr2
  have hlU : ∀ w', Lets (fun j _ => j = mb) w w' → USl w' g l := fun w' hl i hi => hl.cell (hU i hi) (fun e => by simp only at e; omega)
  have HLU := Lib.hid hlU
  clear hU HP hx hlo hhi hr1 hr2 hlU
  go_enter Tryz.func70, Tryz.ntmps70
  go_wp2_with fail
  go_loopw [8] (fun i wr => ∃ k : Nat, k ≤ n ∧ i = .int .i64 k ∧ Way W0 mb m wr ∧ Lets (fun j _ => j = mb) w wr) (fun i _ => n + 1 - (intOf i).toNat)
  case atStart => exact ⟨0, by omega, rfl, hW, Lets.refl _ _⟩
  case round =>
    obtain ⟨k, hk, rfl, hWw, hbw⟩ := hrel
    by_cases hlt : k < l.length
    · have hlti : (k : Int) < (l.length : Int) := by omega
      have cu := HLU.out wr hbw k hlt
      have HPk := Lib.hid (HPP.out wr (l[k]) hWw hbw (HX.out _ (List.getElem_mem hlt)))
      obtain ⟨x, hxk⟩ : ∃ x, l[k] = x := ⟨_, rfl⟩
      by_cases hkn : k < n
      · have hpf := HLO.out k hkn
        rw [hpf] at HPk
        rw [hxk] at HPk cu
        clear hpf hxk
        go_wp2_with fail
        refine HPk.out.mono ?_
        rintro e w2 ⟨rfl, hW2, hb2⟩
        go_wp2_with fail
        exact ⟨⟨k + 1, by omega, by go_num, hW2, hbw.trans hb2⟩, by simp [intOf]; omega⟩
      · have e : k = n := by omega
        subst e
        have hpt := HHI.out hlt
        rw [hpt] at HPk
        rw [hxk] at HPk cu
        clear hpt hxk
        go_wp2_with fail
        refine HPk.out.mono ?_
        rintro e w2 ⟨rfl, hW2, hb2⟩
        go_wp2_with fail
        go_ret
        have e3 := HR1.out hlt
        subst e3
        exact ⟨rfl, hW2, hbw.trans hb2⟩
    · have hlti : ¬ (k : Int) < (l.length : Int) := by omega
      have e : k = n := by omega
      subst e
      have e2 : k = l.length := by omega
      have hr := HR2.out e2
      clear HR1 HR2 HLO HHI
      go_wp2_with fail
      go_ret
      subst hr
      exact ⟨rfl, hWw, hbw⟩

set_option maxHeartbeats 4000000 in
set_option maxRecDepth 100000 in
theorem m_clash3 {m : Mb} {A : Ma} {pa : Option Addr} {pc wp mb : Nat} {W0 : World} (hv : validM m = true) (hO : Opened W0 wp m A pa pc mb) (p4 : Nat) (x : Nat) (hx : x < 256) (w : World) (hW : Way W0 mb m w) (hp : w.cell? ⟨p4, 0, none⟩ = some (.pointer (some ⟨wp, 0, none⟩))) :
    Calls Tryz.prog 71 #[.int .u64 (x : Nat), .pointer (some ⟨p4, 0, none⟩)] w (GivesW W0 mb m (.bool (!canM m x)) w) := by
  have HC := Lib.hid (fun w' (hW : Way W0 mb m w') => m_can hv hO x (by omega) w' hW)
  generalize canM m x = c at *
  go_enter Tryz.func71, Tryz.ntmps71
  go_wp2_with (first
    | (go_at_call 72; refine (HC.out _ hW).mono ?_; rintro e w1 ⟨rfl, hW1, hl1⟩))
  go_ret
  exact ⟨rfl, hW1, hl1⟩
end Go.Proofs.YteeinehpneppnaaGreat
/- Plain laws: the sets by their sizes. (Printed by mkMpS.py) -/
set_option linter.unusedVariables false
set_option linter.unusedSimpArgs false
namespace Go.Proofs.YteeinehpneppnaaGreat
open Go.RowKit Go.Proofs
attribute [local irreducible] Ord.walk
def bestF (f : Nat → Bool) (b : Nat) : Nat → Nat
  | 0 => b
  | k + 1 => if sz k < sz (bestF f b k) ∧ f k = true then k else bestF f b k
/- The sets by their sizes. -/
theorem sz_pop : ∀ x, x < 256 → sz x = Stab.pop x := by decide +kernel
set_option maxRecDepth 100000 in
theorem pop_pow : ∀ k, k ≤ 8 → (List.range (2 ^ k)).all (fun x => Nat.ble (Stab.pop x) k && (Nat.beq x (2 ^ k - 1) || Nat.blt (Stab.pop x) k)) = true := by
  intro k hk
  rcases (show k = 0 ∨ k = 1 ∨ k = 2 ∨ k = 3 ∨ k = 4 ∨ k = 5 ∨ k = 6 ∨ k = 7 ∨ k = 8 by omega) with rfl | rfl | rfl | rfl | rfl | rfl | rfl | rfl | rfl <;> decide +kernel
theorem pop_le_k {k x : Nat} (hk : k ≤ 8) (hx : x < 2 ^ k) : Stab.pop x ≤ k := by
  have := List.all_eq_true.1 (pop_pow k hk) x (List.mem_range.2 hx)
  rw [Bool.and_eq_true, Nat.ble_eq] at this
  exact this.1
theorem pop_lt_k {k x : Nat} (hk : k ≤ 8) (hx : x < 2 ^ k) (hne : x ≠ 2 ^ k - 1) : Stab.pop x < k := by
  have := List.all_eq_true.1 (pop_pow k hk) x (List.mem_range.2 hx)
  simp only [Bool.and_eq_true, Bool.or_eq_true, Nat.ble_eq, Nat.beq_eq, Nat.blt_eq] at this
  rcases this.2 with h | h
  · exact absurd h hne
  · exact h
theorem mem_bySize {k x : Nat} (hk : k ≤ 8) : x ∈ Stab.bySize k ↔ x < 2 ^ k := by
  unfold Stab.bySize
  simp only [List.mem_flatMap, List.mem_filter, List.mem_range, beq_iff_eq]
  constructor
  · rintro ⟨s, _, h, _⟩; exact h
  · intro h; exact ⟨Stab.pop x, by have := pop_le_k hk h; omega, h, rfl⟩
theorem bySize_pair (k : Nat) : (Stab.bySize k).Pairwise fun x y => Stab.pop x < Stab.pop y ∨ (Stab.pop x = Stab.pop y ∧ x < y) := by
  unfold Stab.bySize
  rw [List.pairwise_flatMap]
  refine ⟨fun s _ => ?_, ?_⟩
  · refine List.Pairwise.imp_of_mem ?_ (List.Pairwise.filter _ List.pairwise_lt_range)
    intro x y hx hy h
    have h1 := (List.mem_filter.1 hx).2
    have h2 := (List.mem_filter.1 hy).2
    simp only [beq_iff_eq] at h1 h2
    right; omega
  · refine List.Pairwise.imp ?_ List.pairwise_lt_range
    intro s t hst x hx y hy
    have h1 := (List.mem_filter.1 hx).2
    have h2 := (List.mem_filter.1 hy).2
    simp only [beq_iff_eq] at h1 h2
    left; omega
/-- The first of a row that is sorted is the least. -/
theorem find_least {l : List Nat} {R : Nat → Nat → Prop} (hl : l.Pairwise R) {p : Nat → Bool} {y : Nat} (hy : y ∈ l) (hp : p y = true) (hm : ∀ x, R x y → p x = false) : l.find? p = some y := by
  induction l with
  | nil => simp at hy
  | cons a l ih =>
    rw [List.pairwise_cons] at hl
    rcases List.mem_cons.1 hy with rfl | hy
    · simp [hp]
    · rw [List.find?_cons, hm a (hl.1 y hy)]
      exact ih hl.2 hy
theorem bestF_prop (f : Nat → Bool) (K : Nat) (hK : K ≤ 8) (hf : f (2 ^ K - 1) = true) : ∀ k, k ≤ 2 ^ K →
    f (bestF f (2 ^ K - 1) k) = true ∧ bestF f (2 ^ K - 1) k < 2 ^ K ∧ ∀ x, x < k → f x = true → sz (bestF f (2 ^ K - 1) k) < sz x ∨ (sz (bestF f (2 ^ K - 1) k) = sz x ∧ bestF f (2 ^ K - 1) k ≤ x) := by
  have hp8 : 2 ^ K ≤ 2 ^ 8 := Nat.pow_le_pow_right (by omega) hK
  have e8 : (2 : Nat) ^ 8 = 256 := rfl
  have hp0 : 0 < 2 ^ K := Nat.two_pow_pos K
  intro k
  induction k with
  | zero => intro _; exact ⟨hf, by show 2 ^ K - 1 < 2 ^ K; omega, fun x hx => absurd hx (by omega)⟩
  | succ k ih =>
    intro hk
    obtain ⟨h1, h2, h3⟩ := ih (by omega)
    rw [bestF]
    by_cases hc : sz k < sz (bestF f (2 ^ K - 1) k) ∧ f k = true
    · rw [if_pos hc]
      refine ⟨hc.2, by omega, fun x hx hfx => ?_⟩
      rcases Nat.lt_or_ge x k with h | h
      · rcases h3 x h hfx with h | ⟨h, _⟩ <;> left <;> omega
      · right
        have : x = k := by omega
        subst this; exact ⟨rfl, Nat.le_refl _⟩
    · rw [if_neg hc]
      refine ⟨h1, h2, fun x hx hfx => ?_⟩
      rcases Nat.lt_or_ge x k with h | h
      · exact h3 x h hfx
      · have : x = k := by omega
        subst this
        have hn : ¬ sz x < sz (bestF f (2 ^ K - 1) x) := fun h => hc ⟨h, hfx⟩
        rcases Nat.lt_or_ge (sz (bestF f (2 ^ K - 1) x)) (sz x) with h | h
        · exact .inl h
        · have he : sz (bestF f (2 ^ K - 1) x) = sz x := by omega
          -- the best so far is either below x, or all there are
          right
          refine ⟨he, ?_⟩
          rcases Nat.lt_or_ge x (bestF f (2 ^ K - 1) x) with h' | h'
          · exfalso
            -- then it is all there are
            have hall : ∀ j, j ≤ x → bestF f (2 ^ K - 1) j = 2 ^ K - 1 ∨ bestF f (2 ^ K - 1) j < j := by
              intro j
              induction j with
              | zero => intro _; left; rfl
              | succ j ihj =>
                intro hj
                rw [bestF]
                split
                · right; omega
                · rcases ihj (by omega) with h | h
                  · left; exact h
                  · right; omega
            rcases hall x (Nat.le_refl _) with h4 | h4
            · rw [h4] at he h'
              have := pop_lt_k hK (show x < 2 ^ K by omega) (by omega)
              have h5 := pop_le_k hK (show 2 ^ K - 1 < 2 ^ K by omega)
              rw [sz_pop _ (by omega), sz_pop _ (by omega)] at he
              have h6 : Stab.pop (2 ^ K - 1) = K := by
                clear h1 h2 h3 hc hn he h' h4 this h5 ih hk hfx hx h hall
                rcases (show K = 0 ∨ K = 1 ∨ K = 2 ∨ K = 3 ∨ K = 4 ∨ K = 5 ∨ K = 6 ∨ K = 7 ∨ K = 8 by omega) with rfl | rfl | rfl | rfl | rfl | rfl | rfl | rfl | rfl <;> decide
              omega
            · omega
          · exact h'
theorem clash_find (f : Nat → Bool) (K : Nat) (hK : K ≤ 8) (hf : f (2 ^ K - 1) = true) : (Stab.bySize K).find? f = some (bestF f (2 ^ K - 1) (2 ^ K)) := by
  have hp8 : 2 ^ K ≤ 2 ^ 8 := Nat.pow_le_pow_right (by omega) hK
  have e8 : (2 : Nat) ^ 8 = 256 := rfl
  obtain ⟨h1, h2, h3⟩ := bestF_prop f K hK hf (2 ^ K) (Nat.le_refl _)
  refine find_least (R := fun x y => x < 2 ^ K ∧ (Stab.pop x < Stab.pop y ∨ (Stab.pop x = Stab.pop y ∧ x < y))) ?_ ((mem_bySize hK).2 h2) h1 ?_
  · exact List.Pairwise.imp_of_mem (fun hx _ h => ⟨(mem_bySize hK).1 hx, h⟩) (bySize_pair K)
  · rintro x ⟨hx, h⟩
    cases hfx : f x
    · rfl
    · exfalso
      have := h3 x hx hfx
      rw [sz_pop _ (by omega), sz_pop _ (by omega)] at this
      omega
end Go.Proofs.YteeinehpneppnaaGreat
/- Package mob: Ahead. (Printed by mkMoV.py) -/
set_option linter.unusedVariables false
set_option linter.unusedSimpArgs false
namespace Go.Proofs.YteeinehpneppnaaGreat
open Go.RowKit Go.Proofs
attribute [local irreducible] Ord.walk
attribute [local go_sem] Oper.semAt_some
/-- One mob comes ahead of another one with how long legs take: in each truth, in some. -/
def eachB (m : Mb) (i k : Nat) (L : List Int) : Bool := decide ((comeS m L i (shedN m)).2 < (comeS m L k (shedN m)).1)
def someB (m : Mb) (i k : Nat) (L : List Int) : Bool := decide ((comeS m L i (shedN m)).1 < (comeS m L k (shedN m)).2)
def eachTo (m : Mb) (i k n : Nat) : Bool := ((toldL m (everyN m)).take n).all (eachB m i k)
def someTo (m : Mb) (i k n : Nat) : Bool := ((toldL m (everyN m)).take n).any (someB m i k)
theorem eachTo_succ {m : Mb} {i k n : Nat} (h : n < (toldL m (everyN m)).length) : eachTo m i k (n + 1) = (eachTo m i k n && eachB m i k (toldL m (everyN m))[n]) := by
  unfold eachTo; rw [List.take_succ_eq_append_getElem h, List.all_append]; simp
theorem someTo_succ {m : Mb} {i k n : Nat} (h : n < (toldL m (everyN m)).length) : someTo m i k (n + 1) = (someTo m i k n || someB m i k (toldL m (everyN m))[n]) := by
  unfold someTo; rw [List.take_succ_eq_append_getElem h, List.any_append]; simp
def aheadG (m : Mb) (i k : Nat) : Int := if i = k then 0 else grB (eachTo m i k (toldL m (everyN m)).length) (someTo m i k (toldL m (everyN m)).length)
/-- What a range over told keeps in Ahead. -/
structure AhAt (m : Mb) (i k wp z n0 : Nat) (w w11 : World) (n : Nat) (A : World) : Prop where
  c8 : Blk A z #[.pointer (some ⟨wp, 0, none⟩)] 51
  c9 : Blk A (z + 1) #[.bool (eachTo m i k n)] 4
  c10 : Blk A (z + 2) #[.bool (someTo m i k n)] 4
  b1 : Blk A (n0 + 1) #[.int .i64 (i : Int)] 3
  b2 : Blk A (n0 + 2) #[.int .i64 (k : Int)] 3
  b4 : Blk A (n0 + 3) #[.int .i64 0] 32
  below : Below n0 w A
theorem AhAt.lets_ {X : Nat → Option Obj → Prop} {m : Mb} {i k wp z n0 n : Nat} {w w11 A B : World} (h : AhAt m i k wp z n0 w w11 n A) (hl : Lets X A B) (hn : n0 ≤ w.heap.size) (hx : ∀ j o, X j o → n0 + 4 ≤ j) (hz : ∀ j o, X j o → j ≠ z ∧ j ≠ z + 1 ∧ j ≠ z + 2) : AhAt m i k wp z n0 w w11 n B := by
  have h0 : ∀ j o, j < n0 + 4 → ¬ X j o := fun j o hj e => by have := hx _ _ e; omega
  exact ⟨hl.blk h.c8 (fun e => (hz _ _ e).1 rfl), hl.blk h.c9 (fun e => (hz _ _ e).2.1 rfl), hl.blk h.c10 (fun e => (hz _ _ e).2.2 rfl), hl.blk h.b1 (h0 _ _ (by omega)), hl.blk h.b2 (h0 _ _ (by omega)), hl.blk h.b4 (h0 _ _ (by omega)), below_lets h.below hl hn (fun j o hj => h0 j o (by omega))⟩
set_option maxHeartbeats 40000000 in
set_option maxRecDepth 100000 in
theorem m_Ahead_ok {m : Mb} {A : Ma} (i k : Nat) (w : World) (hl : Mlen m) (hm : MbAt w m A) (hv : validM m = true) (hi : (herdB m i && herdB m k) = true) (hk : knownM m = true) :
    Calls Tryz.prog 18 #[mv m A, .int .i64 (i : Int), .int .i64 (k : Int)] w (Gives2 (.int .i64 (aheadG m i k)) (.int .i64 0) w) := by
  have hik : i < m.herds.length ∧ k < m.herds.length := by
    rw [Bool.and_eq_true] at hi
    have h1 := inB_of hi.1
    have h2 := inB_of hi.2
    omega
  have hmf := hmf_mob
  have HO : Hid (∀ W, Below w.heap.size w W → Blk W (w.heap.size + 1) #[.int .i64 (i : Int)] 3 → Blk W (w.heap.size + 2) #[.int .i64 (k : Int)] 3 → Calls Tryz.prog 25 #[mv m A, .func (.func 60) #[] #[.pointer (some ⟨w.heap.size + 1, 0, none⟩), .pointer (some ⟨w.heap.size + 2, 0, none⟩)]] W (fun e w' => ∃ wp mb pa pc, e = .returned (.pointer (some ⟨wp, 0, none⟩)) ∧ Opened w' wp m A pa pc mb ∧ Below W.heap.size W w' ∧ W.heap.size ≤ wp ∧ W.heap.size ≤ mb)) := fun W hb b1 b2 =>
    (m_open m A 60 #[.pointer (some ⟨w.heap.size + 1, 0, none⟩), .pointer (some ⟨w.heap.size + 2, 0, none⟩)] ((herdB m i && herdB m k)) W hl (hm.below hb) (fun args W => Tryz.call60 args W) (fun hv W' wp mb pa pc hw hb' => m_herdsC _ _ i k W' hl hw (b1.below hb' b1.lt) (b2.below hb' b2.lt))).mono fun e w' h => open_ok h hv hi
  clear hl hm
  unfold mv mcells at *
  refine callsIn_wide.1 (callsIn_of_wp_marks (F := Fence.wide) (n := 0) Tryz.func18 rfl trivial (wpIn_wide.2 ?_) rfl)
  simp only [Tryz.ntmps18, List.size_toArray, List.length_cons, List.length_nil, Nat.reduceAdd, Nat.reduceSub, Array.replicate_succ, Array.replicate_zero, List.push_toArray, List.append_toArray, List.nil_append, List.cons_append]
  go_wp2_with (first
    | (go_at_call 25; refine at_stop ?_))
  unfold Stop
  obtain ⟨W5, hW5⟩ : ∃ W5, ((((w.alloc (.cells #[.slice A.pa m.places.length A.pc, .slice A.la m.legs.length A.lc, .slice A.ha m.herds.length A.hc, .slice A.sa m.seen.length A.sc] 27)).alloc (.cells #[.int .i64 (i : Int)] 3)).alloc (.cells #[.int .i64 (k : Int)] 3)).alloc (.cells #[.int .i64 0] 32)) = W5 := ⟨_, rfl⟩
  have hB5 : Below w.heap.size w W5 := by rw [← hW5]; (repeat (first | assumption | exact Below.refl _ _ | refine Below.drew ?_ | refine Below.alloc ?_ (by first | omega | (simp; done) | (simp; omega)) _ | refine Below.setCell ?_ (by first | omega | (simp; done) | (simp; omega)) _ | refine Below.trans ?_ (Below.mono (by assumption) (by first | omega | (simp; done) | (simp; omega)))))
  have b1 : Blk W5 (w.heap.size + 1) #[.int .i64 (i : Int)] 3 := by rw [← hW5]; exact (((Blk.new' _ _ _ _ (by simp)).alloc _).alloc _)
  have b2 : Blk W5 (w.heap.size + 2) #[.int .i64 (k : Int)] 3 := by rw [← hW5]; exact ((Blk.new' _ _ _ _ (by simp)).alloc _)
  have b4 : Blk W5 (w.heap.size + 3) #[.int .i64 0] 32 := by rw [← hW5]; exact Blk.new' _ _ _ _ (by simp)
  have hs5 : W5.heap.size = w.heap.size + 4 := by rw [← hW5]; simp
  rw [hW5]
  refine (HO.out W5 hB5 b1 b2).mono ?_
  rintro e w6 ⟨wp, mb, pa, pc, rfl, hO, hb6, hwp, hmb⟩
  have hs6 := hb6.size
  have hmb6 := hO.mb_lt
  have hW6 : Way w6 mb m w6 := ⟨hO.kept, Lets.refl _ _⟩
  have HKn := Lib.hid (m_known_yes hv hO w6 hW6 hk)
  go_wp2_with (first
    | (go_at_call 28; refine HKn.out.mono ?_; rintro e w7 ⟨rfl, hW7, hl7⟩; refine at_stop ?_))
  unfold Stop
  have hs7 := hl7.size
  have b17 := hl7.blk (b1.below hb6 b1.lt) (by omega)
  have b27 := hl7.blk (b2.below hb6 b2.lt) (by omega)
  have b47 := hl7.blk (b4.below hb6 b4.lt) (by omega)
  have hB7 : Below w.heap.size w w7 := below_lets (hB5.trans (hb6.mono (by omega))) hl7 (Nat.le_refl _) (fun _ _ _ => by omega)
  have r1 := b17.cell
  have r2 := b27.cell
  have hs5a : W5.heap.size ≤ w.heap.size + 4 ∧ w.heap.size + 4 ≤ W5.heap.size := by omega
  clear hW5 hi hk hs5 b1 b2 b4 HO
  by_cases hik2 : i = k
  · have he : ((i : Int) == (k : Int)) = true := by simp [hik2]
    have HA : Hid (aheadG m i k = 0) := by show _ = _; unfold aheadG; rw [if_pos hik2]
    have r4 := b47.cell
    have f4 := b47.free
    have l4 := b47.lt
    clear hik2
    go_wp2_with fail
    obtain ⟨Wf, hWf⟩ : ∃ Wf, (w7.setCell ⟨w.heap.size + 3, 0, none⟩ (.int .i64 0)).alloc (.cells #[.pointer (some ⟨wp, 0, none⟩)] 51) = Wf := ⟨_, rfl⟩
    have r4f := (by rw [← hWf]; exact (b47.set 0 _).alloc _ : Blk Wf (w.heap.size + 3) #[.int .i64 0] 32).cell
    have hbf : Below w.heap.size w Wf := by rw [← hWf]; exact (hB7.setCell (by simp) _).alloc (by simp; omega) _
    change bodyPostM Fence.wide 0 Tryz.prog _ _ .ret _ ((w7.setCell ⟨w.heap.size + 3, 0, none⟩ (.int .i64 0)).alloc (.cells #[.pointer (some ⟨wp, 0, none⟩)] 51))
    rw [hWf]
    refine post_out (v := .tuple #[.int .i64 0, .int .i64 0]) catch_Ahead (fun W => by simp [go_sem]) rfl ?_ ⟨by rw [HA.out], hbf⟩
    simp [results, Tryz.results18, go_sem, r4f]
  · have he : ((i : Int) == (k : Int)) = false := by simp; omega
    have HA : Hid (aheadG m i k = grB (eachTo m i k (toldL m (everyN m)).length) (someTo m i k (toldL m (everyN m)).length)) := by show _ = _; unfold aheadG; rw [if_neg hik2]
    have HT := Lib.hid (fun W => m_told wp (everyN m) W)
    have HE := Lib.hid (fun W hw => m_everyW hv hO W hw)
    have hE5 := everyN_lt hv
    clear hik2
    go_upto_region 6 with fail
    obtain ⟨W10, hW10⟩ : ∃ W10, ((w7.alloc (.cells #[.pointer (some ⟨wp, 0, none⟩)] 51)).alloc (.cells #[.bool true] 4)).alloc (.cells #[.bool false] 4) = W10 := ⟨_, rfl⟩
    have hB10 : Below w7.heap.size w7 W10 := by rw [← hW10]; (repeat (first | assumption | exact Below.refl _ _ | refine Below.drew ?_ | refine Below.alloc ?_ (by first | omega | (simp; done) | (simp; omega)) _ | refine Below.setCell ?_ (by first | omega | (simp; done) | (simp; omega)) _ | refine Below.trans ?_ (Below.mono (by assumption) (by first | omega | (simp; done) | (simp; omega)))))
    have c8 : Blk W10 w7.heap.size #[.pointer (some ⟨wp, 0, none⟩)] 51 := by rw [← hW10]; exact ((Blk.new _ _ _).alloc _).alloc _
    have c9 : Blk W10 (w7.heap.size + 1) #[.bool true] 4 := by rw [← hW10]; exact (Blk.new' _ _ _ _ (by simp)).alloc _
    have c10 : Blk W10 (w7.heap.size + 2) #[.bool false] 4 := by rw [← hW10]; exact Blk.new' _ _ _ _ (by simp)
    have hs10 : W10.heap.size = w7.heap.size + 3 := by rw [← hW10]; simp
    have hWy10 := hW7.below hB10 hmb6
    have b110 := b17.below hB10 b17.lt
    have b210 := b27.below hB10 b27.lt
    have b410 := b47.below hB10 b47.lt
    have hBw : Below w.heap.size w W10 := hB7.trans (hB10.mono (by omega))
    rw [hW10]
    generalize hz8 : w7.heap.size = z8 at *
    have hs10a : W10.heap.size ≤ z8 + 3 ∧ z8 + 3 ≤ W10.heap.size := by omega
    have hz8a : w6.heap.size ≤ z8 := by omega
    clear hW10 hs10 hz8 b17 b27 b47 r1 r2
    have r8 := c8.cell
    have hHE := Lib.hid (HE.out W10.drew hWy10.drew)
    go_wp2_with fail
    refine Ord.wp_regionN [(0, 0), (1, 0), (2, 0), (3, 2)] (fun _ => True) (by kernel_rfl) (by kernel_rfl) trivial ?_
    go_wp2_with (first
      | (go_at_call 30; refine (HT.out _).mono ?_; rintro e w11 ⟨rfl, hT11, hb11, hs11⟩)
      | (with_reducible refine Ord.at_nm ?_)
      | ((with_reducible refine Ord.at_calm ?_); refine Ord.calm_skip rfl ?_ (fun K hK => ?_); (focus (simp [Region.wanted, yielded]; done))) | with_reducible refine Ord.walk_calm rfl rfl (fun K hK => ?_) | ((with_reducible refine Ord.at_wild ?_); refine Ord.wild_fieldAddr rfl rfl (fun W => by simp [go_sem]; rfl) (fun K hK => ?_)) | ((with_reducible refine Ord.at_wild ?_); refine Ord.wild_move rfl rfl (fun K hK => ?_)) | ((with_reducible refine Ord.at_wild ?_); refine Ord.wild_nilCheck rfl rfl (fun K hK => ?_)) | with_reducible refine Ord.walk_eff rfl (by first | (simp; done) | assumption | (go_simp; done) | (repeat (first | assumption | exact Below.refl _ _ | refine Below.drew ?_ | refine Below.alloc ?_ (by first | omega | (simp; done) | (simp; omega)) _ | refine Below.setCell ?_ (by first | omega | (simp; done) | (simp; omega)) _ | refine Below.trans ?_ (Below.mono (by assumption) (by first | omega | (simp; done) | (simp; omega)))))) (fun K hK => ?_) | with_reducible refine Ord.at_fork ?_ ?_ | with_reducible refine Ord.walk_nil ?_ | (with_reducible refine Ord.next_of (by first | (simp; done) | (go_simp; done) | (repeat (first | assumption | exact Below.refl _ _ | refine Below.drew ?_ | refine Below.alloc ?_ (by first | omega | (simp; done) | (simp; omega)) _ | refine Below.setCell ?_ (by first | omega | (simp; done) | (simp; omega)) _ | refine Below.trans ?_ (Below.mono (by assumption) (by first | omega | (simp; done) | (simp; omega)))))) (fun _ => ?_))
      | ((with_reducible refine Ord.at_calm ?_); refine Ord.calm_call rfl (fun W => Tryz.call31 _ W) (hHE.out) (fun K hK => ?_)) | ((with_reducible refine Ord.at_wild ?_); refine Ord.wild_call rfl (fun W => Tryz.call31 _ W) (fun W hW => hHE.out) (fun K hK => ?_)))
    have d8 := c8.drew.below hb11 c8.lt
    have d9 := c9.drew.below hb11 c9.lt
    have d10 := c10.drew.below hb11 c10.lt
    have d1 := b110.drew.below hb11 b110.lt
    have d2 := b210.drew.below hb11 b210.lt
    have d4 := b410.drew.below hb11 b410.lt
    have hWy11 := hWy10.drew.below hb11 hmb6
    have hs11b := hb11.size
    (try simp only [World.size_drew] at hs11 hs11b hT11)
    have hs11a : w11.heap.size ≤ z8 + 5 ∧ z8 + 5 ≤ w11.heap.size := by omega
    have hBw11 : Below w.heap.size w w11 := hBw.trans (hb11.undrew.mono (by omega))
    clear hs11 c8 c9 c10 b110 b210 b410 r8 hb11 hHE
    have h0 : AhAt m i k wp z8 w.heap.size w w11 0 w11 := ⟨d8, d9, d10, d1, d2, d4, hBw11⟩
    clear d8 d9 d10 d1 d2 d4
    generalize hN : w11.heap.size = N at *
    have hNa : N ≤ z8 + 5 ∧ z8 + 5 ≤ N := by omega
    have HN := Lib.hid hN
    have hNw : w11.heap.size ≤ N ∧ N ≤ w11.heap.size := by omega
    clear hN hs11a
    generalize htb : W10.heap.size = tb at *
    clear htb
    unfold toldF
    refine (wpIn_wide (n := 0)).1 (wp_range (encs := fun L => #[.agg (legC L)]) (xs := toldL m (everyN m)) (XI := fun j _ => j = mb ∨ (N + 2 ≤ j ∧ j < N + 9)) (XB := fun j _ => j = mb ∨ j = z8 + 1 ∨ j = z8 + 2) (Mid := fun W' => Way w6 mb m W' ∧ N + 9 ≤ W'.heap.size)
      (fun n A => AhAt m i k wp z8 w.heap.size w w11 n A) (fun c A => False)
      rfl Tryz.call77 (fun _ => rfl)
      (fun W1 hb1 hs1 => ?seq)
      (fun j o h1 h2 => by omega) (fun j o h1 h2 => by omega)
      (fun n A B h hl => h.lets_ hl (by omega) (fun j o e => by omega) (fun j o e => by omega))
      (fun c A B h hl => h)
      (fun n A B h hl => h.lets_ hl (by omega) (fun j o e => by omega) (fun j o e => by omega))
      (fun c A B h hl => h)
      (fun A B h hl => ⟨h.1.lets hl hmb6 (fun _ _ e => by omega), Nat.le_trans h.2 hl.size⟩) h0 ?round ?done ?stop)
    case seq =>
      have hs4 : W1.heap.size = N + 2 := by rw [hs1, HN.out]
      have hWy1 : Way w6 mb m W1 := hWy11.below hb1 hmb6
      have := told_seq hv hO (everyN m) (by omega) tb (w11.heap.size + 1) W1 hWy1 ⟨hT11.b0.below hb1 hT11.b0.lt, hT11.b1.below hb1 hT11.b1.lt⟩ (by omega) (fun j o => (j = mb ∨ j = z8 + 1 ∨ j = z8 + 2) ∨ j = w11.heap.size + 1) (fun k o e => by have := HN.out; omega)
      rw [hs4] at this
      exact this
    case round =>
      intro n hn A' hI hM hsz hrec
      have hLm : (toldL m (everyN m))[n] ∈ prodL m.legs := (List.mem_filter.1 (List.getElem_mem hn)).1
      have HS1 := Lib.hid (eachTo_succ (i := i) (k := k) hn)
      have HS2 := Lib.hid (someTo_succ (i := i) (k := k) hn)
      have HEB : Hid (eachB m i k (toldL m (everyN m))[n] = decide ((comeS m (toldL m (everyN m))[n] i (shedN m)).2 < (comeS m (toldL m (everyN m))[n] k (shedN m)).1)) := rfl
      have HSB : Hid (someB m i k (toldL m (everyN m))[n] = decide ((comeS m (toldL m (everyN m))[n] i (shedN m)).1 < (comeS m (toldL m (everyN m))[n] k (shedN m)).2)) := rfl
      unfold RoundOk
      generalize (toldL m (everyN m))[n] = L at *
      gi_wp2_with fail
      refine ⟨(Lets.refl _ _).alloc _, fun W₂ hl2 hs2 hI2 hWy2 => ?_⟩
      have b11 : Blk W₂ A'.heap.size (legC L) 58 := hl2.blk (Blk.new _ _ _) (by omega)
      have hs2a : W₂.heap.size = A'.heap.size + 1 := by rw [hs2]; simp
      have hs2b : W₂.heap.size ≤ A'.heap.size + 1 ∧ A'.heap.size + 1 ≤ W₂.heap.size := by omega
      obtain ⟨hWy2, hbig⟩ := hWy2
      clear hl2 hs2 hs2a hI hM
      refine wpIn_block ?_
      refine wpIn_seq ?_
      refine ahead_r8 hv hO hLm i k hik.1 hik.2 _ _ (fun ⟨_, _, h⟩ => h) W₂ z8 A'.heap.size (w.heap.size + 1) (w.heap.size + 2) hWy2 hI2.c8 hI2.b1 hI2.b2 b11 (by omega) (by omega) (by omega) (by omega) ?_
      intro x27 x28 x29 x30 x31 x32 x33 x34 p q W' hW' hL' hpq hp2 hq2 bp bq
      simp only [Exit.then]
      generalize comeS m L i (shedN m) = sa at *
      generalize comeS m L k (shedN m) = sb at *
      obtain ⟨a1, a2⟩ := sa
      obtain ⟨b1', b2'⟩ := sb
      simp only at *
      have e9 := hL'.blk hI2.c9 (by omega)
      have e10 := hL'.blk hI2.c10 (by omega)
      have hI3 := hI2.lets_ hL' (by omega) (fun j o e => by omega) (fun j o e => by omega)
      have r9 := e9.cell
      have f9 := e9.free
      have l9 := e9.lt
      have r10 := e10.cell
      have f10 := e10.free
      have l10 := e10.lt
      have rp := bp.cell
      have rq := bq.cell
      generalize eachB m i k L = eb at *
      generalize someB m i k L = sb at *
      have hsz' := hL'.size
      have hH0 : Blk W'.drew p #[.int .i64 a1, .int .i64 a2] 31 ∧ Blk W'.drew q #[.int .i64 b1', .int .i64 b2'] 31 := ⟨bp.drew, bq.drew⟩
      cases hE : eachTo m i k n <;> cases hSo : someTo m i k n
      all_goals
        rw [hE] at r9 HS1
        rw [hSo] at r10 HS2
        refine Ord.wpIn_region (fun ⟨_, _, h⟩ => h) [(0, 0), (1, 0), (2, 0), (3, 0), (4, 0), (5, 0), (6, 0), (7, 0), (8, 0), (9, 0), (10, 1), (11, 1), (12, 1), (13, 1), (14, 1), (15, 1), (16, 2), (17, 2)] (fun W => Blk W p #[.int .i64 a1, .int .i64 a2] 31 ∧ Blk W q #[.int .i64 b1', .int .i64 b2'] 31) (by kernel_rfl) (by kernel_rfl) (by kernel_rfl) (fun c a d v w h => by cases d <;> exact h) hH0 ?_
        go_wp2_with (first
          | ((with_reducible refine Ord.at_wild ?_); refine Ord.walk_skip rfl rfl (fun K hK => ?_)) | ((with_reducible refine Ord.at_eff ?_); refine Ord.walk_skip rfl rfl (fun K hK => ?_))
          | ((with_reducible refine Ord.at_wild ?_); refine Ord.wild_load (ad := ⟨p, 0, none⟩) (.int .i64 a1) rfl rfl ?_ ?_; (focus (intro W hW; have r := hW.1.cell; simp [go_sem, r]; done)); intro K hK)
          | ((with_reducible refine Ord.at_wild ?_); refine Ord.wild_load (ad := ⟨q, 1, none⟩) (.int .i64 b2') rfl rfl ?_ ?_; (focus (intro W hW; have r := hW.2.cell; simp [go_sem, r]; done)); intro K hK)
          | ((with_reducible refine Ord.at_wild ?_); refine Ord.walk_wild_as rfl (.bool (decide (a1 < b2'))) ?_ ?_; (focus (intro W hW; simp [go_sem, Ord.yields, Ord.yieldUpon, ]; done)); intro K hK)
          | ((with_reducible refine Ord.at_wild ?_); refine Ord.walk_wild_as rfl (.bool true) ?_ ?_; (focus (intro W hW; simp [go_sem, Ord.yields, Ord.yieldUpon, ]; done)); intro K hK)
          | (refine Ord.next_of ⟨(bp.other (by simp; omega) _).drew, (bq.other (by simp; omega) _).drew⟩ (fun _ => ?_))
          | (refine Ord.next_of ⟨((bp.other (by simp; omega) _).other (by simp; omega) _).drew, ((bq.other (by simp; omega) _).other (by simp; omega) _).drew⟩ (fun _ => ?_))
          | ((with_reducible refine Ord.at_calm ?_); refine Ord.calm_skip rfl ?_ (fun K hK => ?_); (focus (simp [Region.wanted, yielded]; done))) | with_reducible refine Ord.walk_calm rfl rfl (fun K hK => ?_) | ((with_reducible refine Ord.at_wild ?_); refine Ord.wild_fieldAddr rfl rfl (fun W => by simp [go_sem]; rfl) (fun K hK => ?_)) | ((with_reducible refine Ord.at_wild ?_); refine Ord.wild_move rfl rfl (fun K hK => ?_)) | ((with_reducible refine Ord.at_wild ?_); refine Ord.wild_nilCheck rfl rfl (fun K hK => ?_)) | with_reducible refine Ord.walk_eff rfl (by first | (simp; done) | assumption | (go_simp; done) | (repeat (first | assumption | exact Below.refl _ _ | refine Below.drew ?_ | refine Below.alloc ?_ (by first | omega | (simp; done) | (simp; omega)) _ | refine Below.setCell ?_ (by first | omega | (simp; done) | (simp; omega)) _ | refine Below.trans ?_ (Below.mono (by assumption) (by first | omega | (simp; done) | (simp; omega)))))) (fun K hK => ?_) | with_reducible refine Ord.at_fork ?_ ?_ | with_reducible refine Ord.walk_nil ?_ | (with_reducible refine Ord.next_of (by first | (simp; done) | (go_simp; done) | (repeat (first | assumption | exact Below.refl _ _ | refine Below.drew ?_ | refine Below.alloc ?_ (by first | omega | (simp; done) | (simp; omega)) _ | refine Below.setCell ?_ (by first | omega | (simp; done) | (simp; omega)) _ | refine Below.trans ?_ (Below.mono (by assumption) (by first | omega | (simp; done) | (simp; omega)))))) (fun _ => ?_)))
      all_goals
        have hlf := fun (v1 v2 : Value) => ((((Lets.refl (fun j _ => j = z8 + 1 ∨ j = z8 + 2) W').setCell (p := ⟨z8 + 1, 0, none⟩) (.inl rfl) v1).setCell (p := ⟨z8 + 2, 0, none⟩) (.inr rfl) v2).drew)
        refine ⟨(hL'.mono fun _ _ e => .inl e).trans ((hlf _ _).mono fun _ _ e => .inr e), ⟨hW'.lets (hlf _ _) hmb6 (fun _ _ e => by omega), Nat.le_trans hbig (Nat.le_trans hL'.size (hlf _ _).size)⟩, (hlf _ _).blk hI3.c8 (by omega), ?_, ?_, (hlf _ _).blk hI3.b1 (by omega), (hlf _ _).blk hI3.b2 (by omega), (hlf _ _).blk hI3.b4 (by omega), below_lets hI3.below (hlf _ _) (Nat.le_refl _) (fun _ _ _ => by omega)⟩
        · rw [HS1.out]
          have := fun (v1 v2 : Value) => ((e9.set 0 v1).other (p := ⟨z8 + 2, 0, none⟩) (by simp) v2).drew
          simpa [HEB.out] using this _ _
        · rw [HS2.out]
          have := fun (v1 v2 : Value) => ((e10.other (p := ⟨z8 + 1, 0, none⟩) (by simp) v1).set 0 v2).drew
          simpa [HSB.out] using this _ _
    case done =>
      intro W hI hM hD
      have HG := Lib.hid (fun x y W => m_graded x y W)
      have r9 := hI.c9.cell
      have r10 := hI.c10.cell
      have r4 := hI.b4.cell
      have f4 := hI.b4.free
      have l4 := hI.b4.lt
      have hbl := hI.below
      have hb4 := hI.b4
      clear hI
      generalize eachTo m i k (toldL m (everyN m)).length = E at *
      generalize someTo m i k (toldL m (everyN m)).length = S at *
      simp only [Exit.inBlock, Exit.then]
      go_wp2_with (go_at_call 55; refine (HG.out _ _ _).mono ?_; rintro e w' ⟨rfl, rfl⟩)
      have hD' : (W.setCell ⟨w.heap.size + 3, 0, none⟩ (.int .i64 0)).heap[w11.heap.size]? = some (.deferred (some [])) := (Below.heap_setCell W ⟨w.heap.size + 3, 0, none⟩ _ _ (by simp only; omega)).trans hD
      refine post_out1 (v := .tuple #[.int .i64 (grB E S), .int .i64 0]) catch_Ahead (fun W => by simp [go_sem]) rfl hD' fun w' hl hs => ⟨?_, by rw [HA.out], below_lets (hbl.setCell (by first | (simp; done) | (simp; omega)) _) hl (Nat.le_refl _) (fun _ _ _ => by omega)⟩
      have r4f := (hl.blk (hb4.set 0 (.int .i64 0)) (by omega)).cell
      simp [results, Tryz.results18, go_sem, r4f]
    case stop =>
      intro c W h
      exact h.elim
def aheadP (m : Mb) (i k : Int) : Int × Int := if knownP m (herdB m i && herdB m k) = 0 then (aheadG m i.toNat k.toNat, 0) else (0, knownP m (herdB m i && herdB m k))
theorem m_Ahead {m : Mb} {A : Ma} (i k : Int) (w : World) (hl : Mlen m) (hm : MbAt w m A) :
    Calls Tryz.prog 18 #[mv m A, .int .i64 i, .int .i64 k] w (Gives2 (.int .i64 (aheadP m i k).1) (.int .i64 (aheadP m i k).2) w) := by
  unfold aheadP
  rcases knownP_cases m (herdB m i && herdB m k) with ⟨h1, h2⟩ | ⟨hv, hi, hk, h2⟩ | ⟨hv, hi, hk, h2⟩
  · rw [if_neg h2]; exact m_Ahead_stop i k w hl hm h1
  · rw [h2, if_neg (by simp)]; exact m_Ahead_clash i k w hl hm hv hi hk
  · rw [if_pos h2]
    have hi2 := hi
    rw [Bool.and_eq_true] at hi2
    have b1 := inB_of hi2.1
    have b2 := inB_of hi2.2
    obtain ⟨i', rfl⟩ : ∃ i' : Nat, i = (i' : Int) := ⟨i.toNat, by omega⟩
    obtain ⟨k', rfl⟩ : ∃ k' : Nat, k = (k' : Int) := ⟨k.toNat, by omega⟩
    exact m_Ahead_ok i' k' w hl hm hv hi hk
end Go.Proofs.YteeinehpneppnaaGreat
/- Package mob: Where: one day on which a mob can leave. -/
set_option linter.unusedVariables false
set_option linter.unusedSimpArgs false
namespace Go.Proofs.YteeinehpneppnaaGreat
open Go.RowKit Go.Proofs
attribute [local irreducible] Ord.walk
attribute [local go_sem] Oper.semAt_some
noncomputable def whDay : Code := sI (sL (sR (sI (sI (sR (sR (sI (sI (sI (sR (sL (sR (sR (sR (sR (Tryz.f8.body.getD .skip))))))))))))))))
set_option maxHeartbeats 40000000 in
set_option maxRecDepth 100000 in
theorem where_day {u0 u1 u2 u3 u4 u6 u7 u12 u14 u15 u16 u17 u18 u19 u20 u21 u22 u23 u24 u25 u26 u27 u28 u29 u30 u31 u32 u33 u34 u35 u36 u37 u38 u39 u40 u41 u42 u43 u44 u45 u46 u47 u48 u49 u50 u51 u52 u53 u54 u55 u56 u57 u58 u59 u60 u61 u62 u63 u64 u65 u66 u67 : Value} {m : Mb} {A : Ma} {pa : Option Addr} {pc wp mb : Nat} {W0 : World} (hv : validM m = true) (hO : Opened W0 wp m A pa pc mb) {L : List Int} (hL : L ∈ prodL m.legs) (s : Nat) (hs : s < m.places.length) (q2 q3 q4 n day : Int) (hn0 : 0 ≤ n) (hn1 : n ≤ 30) (S : Nat) (hS : S < 64)
    (l : Nat) (Q : Exit → Act → World → Prop) (hQ : ¬ LetsOut Q) (hP : ∀ c a w, ¬ Q (.panic c) a w) (W2 : World) (z t11 n2 p9 p10 : Nat) (hW : Way W0 mb m W2) (c8 : Blk W2 z #[.pointer (some ⟨wp, 0, none⟩)] 51) (c2 : Blk W2 n2 #[.int .i64 day] 3) (c9 : Blk W2 p9 #[.int .i64 (S : Int)] 3) (c10 : Blk W2 p10 #[.int .i64 (s : Int), .int .i64 q2, .int .i64 q3, .int .i64 q4] 78) (c11 : Blk W2 t11 (legC L) 58)
    (hlp : ∃ r, W2.heap[l]? = some (.loop r)) (h9 : p9 ≠ z ∧ p9 ≠ n2 ∧ p9 ≠ t11 ∧ p9 ≠ p10) (h90 : W0.heap.size ≤ p9)
    (hexit : ∀ (x14 x47 x48 x49 x50 x51 x52 x53 x54 x55 x56 x63 x64 x65 x66 : Value) W', Lets (fun j _ => j = p9) W2 W' → Blk W' p9 #[.int .i64 ((S ||| 2 ^ nowP m L s n day : Nat) : Int)] 3 →
      Q .normal ⟨(u0 :: u1 :: u2 :: u3 :: u4 :: .pointer (some ⟨n2, 0, none⟩) :: u6 :: u7 :: .pointer (some ⟨z, 0, none⟩) :: .pointer (some ⟨p9, 0, none⟩) :: .pointer (some ⟨p10, 0, none⟩) :: .pointer (some ⟨t11, 0, none⟩) :: u12 :: .int .i64 n :: x14 :: u15 :: u16 :: u17 :: u18 :: u19 :: u20 :: u21 :: u22 :: u23 :: u24 :: u25 :: u26 :: u27 :: u28 :: u29 :: u30 :: u31 :: u32 :: u33 :: u34 :: u35 :: u36 :: u37 :: u38 :: u39 :: u40 :: u41 :: u42 :: u43 :: u44 :: u45 :: u46 :: x47 :: x48 :: x49 :: x50 :: x51 :: x52 :: x53 :: x54 :: x55 :: x56 :: u57 :: u58 :: u59 :: u60 :: u61 :: u62 :: x63 :: x64 :: x65 :: x66 :: u67 :: []).toArray, []⟩ W') :
    whDay.wpIn (Fence.wide.inRound l) 0 Tryz.prog Q ⟨(u0 :: u1 :: u2 :: u3 :: u4 :: .pointer (some ⟨n2, 0, none⟩) :: u6 :: u7 :: .pointer (some ⟨z, 0, none⟩) :: .pointer (some ⟨p9, 0, none⟩) :: .pointer (some ⟨p10, 0, none⟩) :: .pointer (some ⟨t11, 0, none⟩) :: u12 :: .int .i64 n :: u14 :: u15 :: u16 :: u17 :: u18 :: u19 :: u20 :: u21 :: u22 :: u23 :: u24 :: u25 :: u26 :: u27 :: u28 :: u29 :: u30 :: u31 :: u32 :: u33 :: u34 :: u35 :: u36 :: u37 :: u38 :: u39 :: u40 :: u41 :: u42 :: u43 :: u44 :: u45 :: u46 :: u47 :: u48 :: u49 :: u50 :: u51 :: u52 :: u53 :: u54 :: u55 :: u56 :: u57 :: u58 :: u59 :: u60 :: u61 :: u62 :: u63 :: u64 :: u65 :: u66 :: u67 :: []).toArray, []⟩ W2 := by
  have hn6 := validM_len hv
  obtain ⟨now, hnow⟩ : ∃ now, nowP m L s n day = now := ⟨_, rfl⟩
  have hni := (nowTo_in L s n day (m.places.length - s) (by omega) hs).2
  have HNow : Hid (nowTo m L s n day (m.places.length - s) = now) := hnow
  change nowP m L s n day < _ at hni
  rw [hnow] at hni
  rw [hnow] at hexit
  clear hnow
  have HE := Lib.hid hexit
  have hmb := hO.mb_lt
  have hwp := hO.wp_lt
  have hsz := hW.2.size
  clear hexit
  conv => arg 4; whnf
  have r10 := c10.cell
  gi_wp2_with fail
  (repeat (first | ((with_reducible refine wpIn_region_of ?_ ?_ ?_); (focus exact fun ⟨a, w, h⟩ => hQ ⟨a, w, h⟩); (focus rfl)) | gi_step))
  obtain ⟨Wa, hWa⟩ : ∃ Wa, W2.alloc (.cells #[.int .i64 (s : Int)] 3) = Wa := ⟨_, rfl⟩
  have hBa : Below W2.heap.size W2 Wa := by rw [← hWa]; (repeat (first | assumption | exact Below.refl _ _ | refine Below.drew ?_ | refine Below.alloc ?_ (by first | omega | (simp; done) | (simp; omega)) _ | refine Below.setCell ?_ (by first | omega | (simp; done) | (simp; omega)) _ | refine Below.trans ?_ (Below.mono (by assumption) (by first | omega | (simp; done) | (simp; omega)))))
  have ba : Blk Wa W2.heap.size #[.int .i64 (s : Int)] 3 := by rw [← hWa]; exact Blk.new _ _ _
  have hsa : Wa.heap.size = W2.heap.size + 1 := by rw [← hWa]; simp
  rw [hWa]
  clear hWa
  have hBa' : Below W2.heap.size W2 Wa := hBa
  have d8 := c8.below hBa c8.lt
  have d2 := c2.below hBa c2.lt
  have d9 := c9.below hBa c9.lt
  have d10 := c10.below hBa c10.lt
  have d11 := c11.below hBa c11.lt
  have hWya := hW.below hBa hmb
  have hbw := (hO.at_ hWya).blk
  obtain ⟨r, hr⟩ := hlp
  have hla : Wa.heap[l]? = some (.loop r) := (hBa.block l (Array.getElem?_eq_some_iff.1 hr).1).trans hr
  have d9l := d9.lt
  obtain ⟨nd, hnd⟩ : ∃ nd, Wa.heap.size = nd := ⟨_, rfl⟩
  have hD0 : Hid (Calls Tryz.prog 43 #[.agg (hdC ((s : Int), q2, q3, q4)), .slice pa m.places.length pc, .agg (legC L), .int .i64 n] Wa.drew (fun e w' => e = .returned (daysF nd) ∧ DaysAt w' nd ((s : Int), q2, q3, q4) pa m.places.length pc L n ∧ Below Wa.drew.heap.size Wa.drew w' ∧ w'.heap.size = nd + 4)) := by
    have := m_days ((s : Int), q2, q3, q4) pa m.places.length pc L n Wa.drew
    rw [World.size_drew, hnd] at this
    rw [World.size_drew, hnd]
    exact this
  have hp9 := c9.lt
  clear hr r10
  generalize hzb : W2.heap.size = zb at *
  have HZ := Lib.hid hzb
  have hzb2 : W2.heap.size ≤ zb ∧ zb ≤ W2.heap.size := by omega
  clear hzb
  have hsa2 : Wa.heap.size ≤ zb + 1 ∧ zb + 1 ≤ Wa.heap.size := by omega
  have r8 := d8.cell
  have rw' := hbw.cell
  refine Ord.wpIn_region (fun ⟨a, w, h⟩ => hQ ⟨a, w, h⟩) [(0, 0), (1, 0), (2, 0), (3, 0), (4, 0), (5, 0), (6, 0), (7, 2)] (fun _ => True) (by kernel_rfl) (by kernel_rfl) (by kernel_rfl) (fun c a d v w h => (hP c _ w h).elim) trivial ?_
  go_wp2_with (first
    | (refine wpList_load_blk 78 (.tmp 10) agg_herd rfl rfl rfl d10.drew rfl ?_)
    | (refine wpList_load_blk 58 (.tmp 11) agg_legs rfl rfl rfl d11.drew rfl ?_)
    | (go_at_call 43; refine hD0.out.mono ?_; rintro e w3 ⟨rfl, hD3, hb3, hs3⟩)
    | ((with_reducible refine Ord.at_calm ?_); refine Ord.calm_skip rfl ?_ (fun K hK => ?_); (focus (simp [Region.wanted, yielded]; done))) | with_reducible refine Ord.walk_calm rfl rfl (fun K hK => ?_) | ((with_reducible refine Ord.at_wild ?_); refine Ord.wild_fieldAddr rfl rfl (fun W => by simp [go_sem]; rfl) (fun K hK => ?_)) | ((with_reducible refine Ord.at_wild ?_); refine Ord.wild_move rfl rfl (fun K hK => ?_)) | ((with_reducible refine Ord.at_wild ?_); refine Ord.wild_nilCheck rfl rfl (fun K hK => ?_)) | with_reducible refine Ord.walk_eff rfl (by first | (simp; done) | assumption | (go_simp; done) | (repeat (first | assumption | exact Below.refl _ _ | refine Below.drew ?_ | refine Below.alloc ?_ (by first | omega | (simp; done) | (simp; omega)) _ | refine Below.setCell ?_ (by first | omega | (simp; done) | (simp; omega)) _ | refine Below.trans ?_ (Below.mono (by assumption) (by first | omega | (simp; done) | (simp; omega)))))) (fun K hK => ?_) | with_reducible refine Ord.at_fork ?_ ?_ | with_reducible refine Ord.walk_nil ?_ | (with_reducible refine Ord.next_of (by first | (simp; done) | (go_simp; done) | (repeat (first | assumption | exact Below.refl _ _ | refine Below.drew ?_ | refine Below.alloc ?_ (by first | omega | (simp; done) | (simp; omega)) _ | refine Below.setCell ?_ (by first | omega | (simp; done) | (simp; omega)) _ | refine Below.trans ?_ (Below.mono (by assumption) (by first | omega | (simp; done) | (simp; omega)))))) (fun _ => ?_)))
  have hs3b := hb3.size
  (try simp only [World.size_drew] at hs3b)
  have hnd2 : nd ≤ zb + 1 ∧ zb + 1 ≤ nd := by omega
  have hs32 : w3.heap.size ≤ nd + 4 ∧ nd + 4 ≤ w3.heap.size := by omega
  have HND := Lib.hid hnd
  have hnd3 : Wa.heap.size ≤ nd ∧ nd ≤ Wa.heap.size := by omega
  clear hnd hsa
  have hB3 : Below zb Wa w3 := hb3.undrew.mono (by omega)
  have ba3 := ba.below hb3.undrew ba.lt
  have hl3 : w3.heap[l]? = some (.loop r) := (hb3.undrew.block l (Array.getElem?_eq_some_iff.1 hla).1).trans hla
  have hpa : ∀ g go, pa = some ⟨g, go, none⟩ → g < W0.heap.size := fun g go e => by
    obtain ⟨gb, go', h0, h1⟩ := hO.way.spots 0 (by omega)
    rw [e] at h0
    simp only [Option.some.injEq, Addr.mk.injEq] at h0
    obtain ⟨rfl, -, -⟩ := h0
    exact World.block_lt_of_cell? W0 _ (h1 0 _ rfl)
  have hsp3 : RowsAt w3 pa 1 (fun p => [spotV p]) m.places := (hO.at_ (hWya.below hb3.undrew hmb)).spots
  have hx2 : Blk Wa n2 #[.int .i64 day] 3 := d2
  have hn2 : n2 < zb := by have := c2.lt; omega
  unfold daysF
  clear r8 rw' hb3 hbw d8 d9 d10 d11 hla hs3
  refine wpIn_block ?_
  refine wp_rangeN (gf := 85) (lb := #[.pointer (some ⟨nd, 0, none⟩), .pointer (some ⟨nd + 1, 0, none⟩), .pointer (some ⟨nd + 3, 0, none⟩), .pointer (some ⟨nd + 2, 0, none⟩)]) (encs := dayV) (xs := daysL m L s n) (XI := fun k _ => k = nd + 3) (XB := fun k _ => k = zb) (Mid := fun _ => True)
    (fun k W => Below zb Wa W ∧ Blk W zb #[.int .i64 (nowTo m L s n day k : Nat)] 3) (fun _ _ => False)
    ⟨r, hl3⟩ rfl Tryz.call85 (fun _ => rfl)
    (fun W1 hb1 hs1 => days_seq hv hL _ s rfl hs pa pc nd n hn0 hn1 _ W1 ⟨hD3.b0.below hb1 hD3.b0.lt, hD3.b1.below hb1 hD3.b1.lt, hD3.b2.below hb1 hD3.b2.lt, hD3.b3.below hb1 hD3.b3.lt⟩ (hsp3.below hb1) (fun g go e => by have := hpa g go e; omega) _ (fun k o h => ⟨by omega, fun g go e => by have := hpa g go e; omega⟩))
    (fun o h => by omega) (fun o h => by omega)
    (fun k A B h hl => ⟨below_lets h.1 hl (by omega) (fun _ _ _ => by omega), blk_lets h.2 hl (fun _ => by omega)⟩)
    (fun c A B h hl => h)
    (fun k A B h hl => ⟨below_lets h.1 hl (by omega) (fun _ _ _ => by omega), blk_lets h.2 hl (fun _ => by omega)⟩)
    (fun c A B h hl => h) (fun _ _ _ _ => trivial) ⟨hB3, ba3⟩ ?round ?done ?stop
  case round =>
    intro k hk W hI _ hrec
    rw [daysL_len] at hk
    unfold RoundOk
    rw [daysL_get]
    unfold dayV
    have HS : Hid (nowTo m L s n day (k + 1) = if inK m L s n k ≤ day then s + k else nowTo m L s n day k) := rfl
    generalize nowTo m L s n day (k + 1) = nx at *
    generalize nowTo m L s n day k = nw at *
    generalize inK m L s n k = came at *
    gi_wp2_with fail
    refine ⟨Lets.refl _ _, fun W₂ hl2 hs2 hI2 _ => ?_⟩
    obtain ⟨hB2, b2⟩ := hI2
    have rd := (hx2.below (hB2.mono (by omega)) hn2).cell
    have r2 := b2.cell
    have f2 := b2.free
    have l2 := b2.lt
    clear hI hl2 hs2 hD3 ba3 ba
    by_cases hc : came ≤ day
    · rw [if_pos hc] at HS
      gi_wp2_with fail
      have hv1 : Value.int .i64 ((s : Int) + (k : Int)) = .int .i64 ((nx : Nat) : Int) := by rw [HS.out]; simp
      rw [hv1]
      exact ⟨(Lets.refl _ _).setCell rfl _, trivial, hB2.setCell (by simp) _, b2.set 0 _⟩
    · rw [if_neg hc] at HS
      gi_wp2_with fail
      exact ⟨Lets.refl _ _, trivial, hB2, by rw [HS.out]; exact b2⟩
  case done =>
    intro W hI hM
    obtain ⟨hB2, b2⟩ := hI
    rw [daysL_len, HNow.out] at b2
    have h9z : p9 < zb := by omega
    have e9 : Blk W p9 #[.int .i64 (S : Int)] 3 := (c9.below hBa h9z).below (hB2) h9z
    have hor := (or_any6 S hS now (by omega)).1
    have hol := (or_any6 S hS now (by omega)).2
    have hwp2 := wrap_pow now (by omega)
    have hnow6 : (now : Int) < 6 := by omega
    have hsd := now
    have r9 := e9.cell
    have f9 := e9.free
    have r2 := b2.cell
    have l9 := e9.lt
    generalize hPw : 2 ^ now = Pw at *
    have HPW := Lib.hid hPw
    clear hPw
    have hP32 : (Pw : Int) ≤ 32 := by
      have : 2 ^ now ≤ 2 ^ 5 := Nat.pow_le_pow_right (by omega) (by omega)
      have h := HPW.out
      omega
    have hS64 : (S : Int) < 64 := by omega
    have hBz : Below zb W2 W := hBa'.trans hB2
    have hnd9 := h9.1
    generalize hT : S ||| Pw = T at *
    clear hT hB2 hD3 ba3 ba hB3 hsp3 c8 c2 c10 c11 c9
    simp only [Exit.inBlock, Exit.then]
    gi_wp2_with fail
    refine Ord.wpIn_region (fun ⟨a, w, h⟩ => hQ ⟨a, w, h⟩) [(0, 0), (1, 0), (2, 0), (3, 0), (4, 2)] (fun _ => True) (by kernel_rfl) (by kernel_rfl) (by kernel_rfl) (fun c a d v w h => (hP c _ w h).elim) trivial ?_
    go_wp2_with (first
      | ((with_reducible refine Ord.at_calm ?_); refine Ord.calm_skip rfl ?_ (fun K hK => ?_); (focus (simp [Region.wanted, yielded]; done))) | with_reducible refine Ord.walk_calm rfl rfl (fun K hK => ?_) | ((with_reducible refine Ord.at_wild ?_); refine Ord.wild_fieldAddr rfl rfl (fun W => by simp [go_sem]; rfl) (fun K hK => ?_)) | ((with_reducible refine Ord.at_wild ?_); refine Ord.wild_move rfl rfl (fun K hK => ?_)) | ((with_reducible refine Ord.at_wild ?_); refine Ord.wild_nilCheck rfl rfl (fun K hK => ?_)) | with_reducible refine Ord.walk_eff rfl (by first | (simp; done) | assumption | (go_simp; done) | (repeat (first | assumption | exact Below.refl _ _ | refine Below.drew ?_ | refine Below.alloc ?_ (by first | omega | (simp; done) | (simp; omega)) _ | refine Below.setCell ?_ (by first | omega | (simp; done) | (simp; omega)) _ | refine Below.trans ?_ (Below.mono (by assumption) (by first | omega | (simp; done) | (simp; omega)))))) (fun K hK => ?_) | with_reducible refine Ord.at_fork ?_ ?_ | with_reducible refine Ord.walk_nil ?_ | (with_reducible refine Ord.next_of (by first | (simp; done) | (go_simp; done) | (repeat (first | assumption | exact Below.refl _ _ | refine Below.drew ?_ | refine Below.alloc ?_ (by first | omega | (simp; done) | (simp; omega)) _ | refine Below.setCell ?_ (by first | omega | (simp; done) | (simp; omega)) _ | refine Below.trans ?_ (Below.mono (by assumption) (by first | omega | (simp; done) | (simp; omega)))))) (fun _ => ?_)))
    refine HE.out _ _ _ _ _ _ _ _ _ _ _ _ _ _ _ _ ?_ ?_
    · have hz : Below W2.heap.size W2 W := by rw [HZ.out]; exact hBz
      exact ((Lets.of_below hz).setCell (p := ⟨p9, 0, none⟩) rfl _).drew
    · exact (e9.set 0 _).drew
  case stop =>
    intro c W h
    exact h.elim
end Go.Proofs.YteeinehpneppnaaGreat
/- Package mob: Where: a round over how long legs take. (Printed by mkMoZB.py) -/
set_option linter.unusedVariables false
set_option linter.unusedSimpArgs false
namespace Go.Proofs.YteeinehpneppnaaGreat
open Go.RowKit Go.Proofs
attribute [local irreducible] Ord.walk
theorem wpIn_seq_hid {F : Fence} {n : Nat} {P : Program} {x y : Code} {Q : Exit → Act → World → Prop} {a : Act} {w : World} (h : ∀ K : Act → World → Prop, Hid (∀ b v, y.wpIn F n P Q b v → K b v) → x.wpIn F n P (Exit.then K Q) a w) : (Code.seq x y).wpIn F n P Q a w :=
  wpIn_seq (h _ (fun _ _ h => h))
attribute [local go_sem] Oper.semAt_some
noncomputable def whRound : Code := sI (sI (sI (sR (sL (sR (sR (sR (sR (Tryz.f8.body.getD .skip)))))))))
noncomputable def whR6 : Code := sL whRound
set_option maxHeartbeats 40000000 in
set_option maxRecDepth 100000 in
theorem where_r6 {u0 u1 u2 u3 u6 u7 u12 u13 u14 u15 u16 u17 u18 u19 u20 u21 u22 u23 u24 u25 u26 u27 u28 u29 u30 u31 u32 u33 u34 u35 u36 u37 u38 u39 u40 u41 u42 u43 u44 u45 u46 u47 u48 u49 u50 u51 u52 u53 u54 u55 u56 u57 u58 u59 u60 u61 u62 u63 u64 u65 u66 u67 : Value} {m : Mb} {A : Ma} {pa : Option Addr} {pc wp mb : Nat} {W0 : World} (hv : validM m = true) (hO : Opened W0 wp m A pa pc mb) {L : List Int} (hL : L ∈ prodL m.legs) (i : Nat) (hi : i < m.herds.length)
    (l : Nat) (Q : Exit → Act → World → Prop) (hQ : ¬ LetsOut Q) (hP : ∀ c a w, ¬ Q (.panic c) a w) (W2 : World) (n1 n2 z p9 p10 t11 : Nat) (hW : Way W0 mb m W2) (c8 : Blk W2 z #[.pointer (some ⟨wp, 0, none⟩)] 51) (c1 : Blk W2 n1 #[.int .i64 (i : Int)] 3) (c11 : Blk W2 t11 (legC L) 58)
    (hz : z ≠ mb) (hn1 : n1 ≠ mb) (ht : t11 ≠ mb)
    (hexit : ∀ (x32 x33 x34 x35 x36 x37 x38 : Value) p W', Way W0 mb m W' → Lets (fun j _ => j = mb) W2 W' → W2.heap.size ≤ p → Blk W' p #[.int .i64 (leavesM m L i (everyN m)).1, .int .i64 (leavesM m L i (everyN m)).2] 31 →
      Q .normal ⟨(u0 :: u1 :: u2 :: u3 :: .pointer (some ⟨n1, 0, none⟩) :: .pointer (some ⟨n2, 0, none⟩) :: u6 :: u7 :: .pointer (some ⟨z, 0, none⟩) :: .pointer (some ⟨p9, 0, none⟩) :: .pointer (some ⟨p10, 0, none⟩) :: .pointer (some ⟨t11, 0, none⟩) :: .pointer (some ⟨p, 0, none⟩) :: u13 :: u14 :: u15 :: u16 :: u17 :: u18 :: u19 :: u20 :: u21 :: u22 :: u23 :: u24 :: u25 :: u26 :: u27 :: u28 :: u29 :: u30 :: u31 :: x32 :: x33 :: x34 :: x35 :: x36 :: x37 :: x38 :: u39 :: u40 :: u41 :: u42 :: u43 :: u44 :: u45 :: u46 :: u47 :: u48 :: u49 :: u50 :: u51 :: u52 :: u53 :: u54 :: u55 :: u56 :: u57 :: u58 :: u59 :: u60 :: u61 :: u62 :: u63 :: u64 :: u65 :: u66 :: u67 :: []).toArray, []⟩ W') :
    whR6.wpIn (Fence.wide.inRound l) 0 Tryz.prog Q ⟨(u0 :: u1 :: u2 :: u3 :: .pointer (some ⟨n1, 0, none⟩) :: .pointer (some ⟨n2, 0, none⟩) :: u6 :: u7 :: .pointer (some ⟨z, 0, none⟩) :: .pointer (some ⟨p9, 0, none⟩) :: .pointer (some ⟨p10, 0, none⟩) :: .pointer (some ⟨t11, 0, none⟩) :: u12 :: u13 :: u14 :: u15 :: u16 :: u17 :: u18 :: u19 :: u20 :: u21 :: u22 :: u23 :: u24 :: u25 :: u26 :: u27 :: u28 :: u29 :: u30 :: u31 :: u32 :: u33 :: u34 :: u35 :: u36 :: u37 :: u38 :: u39 :: u40 :: u41 :: u42 :: u43 :: u44 :: u45 :: u46 :: u47 :: u48 :: u49 :: u50 :: u51 :: u52 :: u53 :: u54 :: u55 :: u56 :: u57 :: u58 :: u59 :: u60 :: u61 :: u62 :: u63 :: u64 :: u65 :: u66 :: u67 :: []).toArray, []⟩ W2 := by
  have HX := Lib.hid hexit
  have hmb := hO.mb_lt
  have hlen := validM_len hv
  have hE5 := everyN_lt hv
  have HL : Hid (∀ W, Way W0 mb m W → Calls Tryz.prog 42 #[.pointer (some ⟨wp, 0, none⟩), .agg #[.int .i64 (lg L 0), .int .i64 (lg L 1), .int .i64 (lg L 2), .int .i64 (lg L 3), .int .i64 (lg L 4), .int .i64 (i : Int), .int .u64 ((everyN m : Nat) : Int)]] W (LeavesPost m mb (leavesM m L i (everyN m)) W)) := fun W hw => m_leaves hv hL i (everyN m) hi (by omega) W (hO.at_ hw) hw.1
  have HE := Lib.hid (fun W hw => m_everyW hv hO W hw)
  have hsz := hW.2.size
  have hI0 : Way W0 mb m W2.drew ∧ Lets (fun j _ => j = mb) W2 W2.drew := ⟨hW.drew, (Lets.refl _ _).drew⟩
  have hIa : Way W0 mb m (W2.alloc (.cells #[.int .i64 0, .int .i64 0] 31)).drew ∧ Lets (fun j _ => j = mb) W2 (W2.alloc (.cells #[.int .i64 0, .int .i64 0] 31)).drew := ⟨(hW.below ((Below.refl _ _).alloc (Nat.le_refl _) _) hmb).drew, ((Lets.refl _ _).alloc _).drew⟩
  have hbn : Blk (W2.alloc (.cells #[.int .i64 0, .int .i64 0] 31)).drew W2.heap.size #[.int .i64 0, .int .i64 0] 31 := (Blk.new _ _ _).drew
  have hmb2 : W2.heap.size ≠ mb := by omega
  clear hexit
  generalize leavesM m L i (everyN m) = lv at *
  generalize everyN m = E at *
  obtain ⟨v1, v2⟩ := lv
  simp only at *
  conv => arg 4; whnf
  refine Ord.wpIn_regionT (fun ⟨a, w, h⟩ => hQ ⟨a, w, h⟩) 4 (.fork2 [(0, 1), (1, 1), (2, 1), (3, 1), (4, 1), (5, 1)] 6 (.leaf [(7, 2), (8, 2)]) 7 (.leaf [(6, 2), (8, 2)])) (fun W => Way W0 mb m W ∧ Lets (fun j _ => j = mb) W2 W) (by kernel_rfl) (by kernel_rfl) (by kernel_rfl) (fun c a d v w h => (hP c _ w h).elim) hI0 ?_
  go_wp2_with (first
    | ((with_reducible refine Ord.at_wild ?_); refine Ord.wild_load (ad := ⟨z, 0, none⟩) (.pointer (some ⟨wp, 0, none⟩)) rfl rfl ?_ ?_; (focus (intro W hW; have r := (hW.2.blk c8 hz).cell; simp [go_sem, r]; done)); intro K hK)
    | ((with_reducible refine Ord.at_wild ?_); refine Ord.wild_load (ad := ⟨n1, 0, none⟩) (.int .i64 (i : Int)) rfl rfl ?_ ?_; (focus (intro W hW; have r := (hW.2.blk c1 hn1).cell; simp [go_sem, r]; done)); intro K hK)
    | ((with_reducible refine Ord.at_wild ?_); refine Ord.wild_load (ad := ⟨t11, 0, none⟩) (.agg (legC L)) rfl rfl ?_ ?_; (focus (intro W hW; have r := (hW.2.blk c11 ht).cell; simp [go_sem, r]; done)); intro K hK)
    | ((with_reducible refine Ord.at_wild ?_); refine Ord.wild_build (.agg #[.int .i64 (lg L 0), .int .i64 (lg L 1), .int .i64 (lg L 2), .int .i64 (lg L 3), .int .i64 (lg L 4), .int .i64 (i : Int), .int .u64 ((E : Nat) : Int)]) rfl ?_ ?_; (focus (intro W hW; simp [go_sem]; done)); intro K hK)
    | (go_at_call 42; refine (HL.out _ (by first | exact hI0.1 | exact hIa.1)).mono ?_; rintro e w5 ⟨rfl, hk5, hl5⟩; have hIb : Way W0 mb m w5 ∧ Lets (fun j _ => j = mb) W2 w5 := (by first | exact ⟨hI0.1.leaves hk5 hl5, hI0.2.trans hl5⟩ | exact ⟨hIa.1.leaves hk5 hl5, hIa.2.trans hl5⟩))
    | (refine Ord.next_of hIb (fun _ => ?_))
    | (refine Ord.next_of hIa (fun _ => ?_))
    | (refine Ord.next_of ⟨hIb.1.below ((Below.refl _ _).alloc (Nat.le_refl _) _) hmb, hIb.2.alloc _⟩ (fun _ => ?_))
    | (refine wpList_store_blk 31 (.tmp 12) (.tmp 38) agg_span rfl rfl rfl rfl (hl5.blk hbn hmb2) rfl rfl (by simp [Value.oneCell']) ?_; intro w8 h8; have hl8 : Lets (fun j _ => j = W2.heap.size) w5 w8 := (Lets.refl _ _).rowed h8 rfl; have hIb : Way W0 mb m w8 ∧ Lets (fun j _ => j = mb) W2 w8 := ⟨hIb.1.lets hl8 hmb (fun _ _ e => by omega), hIb.2.next hl8 (fun j hj hx => by omega)⟩)
    | (with_reducible refine Ord.at_nm ?_)
    | with_reducible refine Ord.top_two ?_ | with_reducible refine Ord.top_three ?_ | with_reducible refine Ord.at_two ?_ ?_ | with_reducible refine Ord.at_three ?_ ?_ ?_ | with_reducible refine Ord.tree_leaf ?_ | with_reducible refine Ord.tree_two ?_ | ((with_reducible refine Ord.at_calm ?_); refine Ord.calm_skip rfl ?_ (fun K hK => ?_); (focus (simp [Region.wanted, yielded]; done))) | with_reducible refine Ord.walk_calm rfl rfl (fun K hK => ?_) | ((with_reducible refine Ord.at_wild ?_); refine Ord.wild_fieldAddr rfl rfl (fun W => by simp [go_sem]; rfl) (fun K hK => ?_)) | ((with_reducible refine Ord.at_wild ?_); refine Ord.wild_move rfl rfl (fun K hK => ?_)) | ((with_reducible refine Ord.at_wild ?_); refine Ord.wild_nilCheck rfl rfl (fun K hK => ?_)) | with_reducible refine Ord.walk_eff rfl (by first | (simp; done) | assumption | (go_simp; done) | (repeat (first | assumption | exact Below.refl _ _ | refine Below.drew ?_ | refine Below.alloc ?_ (by first | omega | (simp; done) | (simp; omega)) _ | refine Below.setCell ?_ (by first | omega | (simp; done) | (simp; omega)) _ | refine Below.trans ?_ (Below.mono (by assumption) (by first | omega | (simp; done) | (simp; omega)))))) (fun K hK => ?_) | with_reducible refine Ord.at_fork ?_ ?_ | with_reducible refine Ord.walk_nil ?_ | (with_reducible refine Ord.next_of (by first | (simp; done) | (go_simp; done) | (repeat (first | assumption | exact Below.refl _ _ | refine Below.drew ?_ | refine Below.alloc ?_ (by first | omega | (simp; done) | (simp; omega)) _ | refine Below.setCell ?_ (by first | omega | (simp; done) | (simp; omega)) _ | refine Below.trans ?_ (Below.mono (by assumption) (by first | omega | (simp; done) | (simp; omega)))))) (fun _ => ?_))
    | ((with_reducible refine Ord.at_wild ?_); refine Ord.wild_call rfl (fun W => Tryz.call31 _ W) (fun W hW => HE.out W hW.1) (fun K hK => ?_)))
  · exact HX.out _ _ _ _ _ _ _ _ _ (hIb.1.below ((Below.refl _ _).alloc (Nat.le_refl _) _) hmb) (hIb.2.alloc _) hIb.2.size (Blk.new _ _ _)
  · exact HX.out _ _ _ _ _ _ _ _ _ hIb.1 hIb.2 (Nat.le_refl _) h8.blk
theorem lvTo_sub {m : Mb} (hv : validM m = true) (L : List Int) {h : Nat} (hh : h < m.herds.length) (set : Nat) : ∀ k, 0 ≤ (lvTo m L h set k).1 ∧ (lvTo m L h set k).2 ≤ 30
  | 0 => by
    have := validM_herd hv hh
    simp only [lvTo]
    omega
  | k + 1 => by
    have ih := lvTo_sub hv L hh set k
    simp only [lvTo]
    split
    · simp only; omega
    · exact ih
theorem leavesM_sub {m : Mb} (hv : validM m = true) (L : List Int) {h : Nat} (hh : h < m.herds.length) (set : Nat) : 0 ≤ (leavesM m L h set).1 ∧ (leavesM m L h set).2 ≤ 30 := lvTo_sub hv L hh set _
/-- The set behind some days on which a mob can leave. -/
def daySet (m : Mb) (L : List Int) (s : Nat) (day v1 : Int) (S : Nat) : Nat → Nat
  | 0 => S
  | k + 1 => daySet m L s day v1 S k ||| 2 ^ nowP m L s (v1 + k) day
theorem daySet_eq (m : Mb) (L : List Int) (s : Nat) (day v1 : Int) (S : Nat) : ∀ k, daySet m L s day v1 S k = orL S ((List.range k).map fun j : Nat => nowP m L s (v1 + j) day)
  | 0 => rfl
  | k + 1 => by rw [List.range_succ, List.map_append, orL_append, ← daySet_eq m L s day v1 S k]; rfl
theorem daySet_lt {m : Mb} (hv : validM m = true) (L : List Int) {s : Nat} (hs : s < m.places.length) (day v1 : Int) {S : Nat} (hS : S < 64) (k : Nat) : daySet m L s day v1 S k < 64 := by
  rw [daySet_eq]
  refine orL_lt hS _ fun p hp => ?_
  obtain ⟨j, -, rfl⟩ := List.mem_map.1 hp
  have := validM_len hv
  have := nowTo_in L s (v1 + j) day (m.places.length - s) (by omega) hs
  unfold nowP
  omega
set_option maxHeartbeats 40000000 in
set_option maxRecDepth 100000 in
theorem where_round {u0 u1 u2 u3 u6 u7 u12 u13 u14 u15 u16 u17 u18 u19 u20 u21 u22 u23 u24 u25 u26 u27 u28 u29 u30 u31 u32 u33 u34 u35 u36 u37 u38 u39 u40 u41 u42 u43 u44 u45 u46 u47 u48 u49 u50 u51 u52 u53 u54 u55 u56 u57 u58 u59 u60 u61 u62 u63 u64 u65 u66 u67 : Value} {m : Mb} {A : Ma} {pa : Option Addr} {pc wp mb : Nat} {W0 : World} (hv : validM m = true) (hO : Opened W0 wp m A pa pc mb) {L : List Int} (hL : L ∈ prodL m.legs) (i : Nat) (hi : i < m.herds.length) (s : Nat) (hs : s < m.places.length) (q2 q3 q4 day : Int) (S : Nat) (hS : S < 64)
    (l : Nat) (Q : Exit → Act → World → Prop) (hQ : ¬ LetsOut Q) (hP : ∀ c a w, ¬ Q (.panic c) a w) (W2 : World) (n1 n2 z p9 p10 t11 : Nat) (hW : Way W0 mb m W2) (c8 : Blk W2 z #[.pointer (some ⟨wp, 0, none⟩)] 51) (c1 : Blk W2 n1 #[.int .i64 (i : Int)] 3) (c2 : Blk W2 n2 #[.int .i64 day] 3) (c9 : Blk W2 p9 #[.int .i64 (S : Int)] 3) (c10 : Blk W2 p10 #[.int .i64 (s : Int), .int .i64 q2, .int .i64 q3, .int .i64 q4] 78) (c11 : Blk W2 t11 (legC L) 58)
    (hlp : ∃ r, W2.heap[l]? = some (.loop r)) (hne : z ≠ mb ∧ n1 ≠ mb ∧ n2 ≠ mb ∧ p9 ≠ mb ∧ p10 ≠ mb ∧ t11 ≠ mb ∧ l ≠ mb ∧ l ≠ p9) (h9 : p9 ≠ z ∧ p9 ≠ n2 ∧ p9 ≠ t11 ∧ p9 ≠ p10 ∧ p9 ≠ n1) (h90 : W0.heap.size ≤ p9)
    (hexit : ∀ (x12 x13 x14 x15 x16 x32 x33 x34 x35 x36 x37 x38 x39 x40 x41 x42 x43 x44 x45 x46 x47 x48 x49 x50 x51 x52 x53 x54 x55 x56 x57 x58 x59 x60 x61 x62 x63 x64 x65 x66 : Value) W', Way W0 mb m W' → Lets (fun j _ => j = mb ∨ j = p9) W2 W' → Blk W' p9 #[.int .i64 ((orL S ((rangeI (leavesM m L i (everyN m)).1 (leavesM m L i (everyN m)).2).map fun n => nowP m L s n day) : Nat) : Int)] 3 →
      Q .normal ⟨(u0 :: u1 :: u2 :: u3 :: .pointer (some ⟨n1, 0, none⟩) :: .pointer (some ⟨n2, 0, none⟩) :: u6 :: u7 :: .pointer (some ⟨z, 0, none⟩) :: .pointer (some ⟨p9, 0, none⟩) :: .pointer (some ⟨p10, 0, none⟩) :: .pointer (some ⟨t11, 0, none⟩) :: x12 :: x13 :: x14 :: x15 :: x16 :: u17 :: u18 :: u19 :: u20 :: u21 :: u22 :: u23 :: u24 :: u25 :: u26 :: u27 :: u28 :: u29 :: u30 :: u31 :: x32 :: x33 :: x34 :: x35 :: x36 :: x37 :: x38 :: x39 :: x40 :: x41 :: x42 :: x43 :: x44 :: x45 :: x46 :: x47 :: x48 :: x49 :: x50 :: x51 :: x52 :: x53 :: x54 :: x55 :: x56 :: x57 :: x58 :: x59 :: x60 :: x61 :: x62 :: x63 :: x64 :: x65 :: x66 :: u67 :: []).toArray, []⟩ W') :
    whRound.wpIn (Fence.wide.inRound l) 0 Tryz.prog Q ⟨(u0 :: u1 :: u2 :: u3 :: .pointer (some ⟨n1, 0, none⟩) :: .pointer (some ⟨n2, 0, none⟩) :: u6 :: u7 :: .pointer (some ⟨z, 0, none⟩) :: .pointer (some ⟨p9, 0, none⟩) :: .pointer (some ⟨p10, 0, none⟩) :: .pointer (some ⟨t11, 0, none⟩) :: u12 :: u13 :: u14 :: u15 :: u16 :: u17 :: u18 :: u19 :: u20 :: u21 :: u22 :: u23 :: u24 :: u25 :: u26 :: u27 :: u28 :: u29 :: u30 :: u31 :: u32 :: u33 :: u34 :: u35 :: u36 :: u37 :: u38 :: u39 :: u40 :: u41 :: u42 :: u43 :: u44 :: u45 :: u46 :: u47 :: u48 :: u49 :: u50 :: u51 :: u52 :: u53 :: u54 :: u55 :: u56 :: u57 :: u58 :: u59 :: u60 :: u61 :: u62 :: u63 :: u64 :: u65 :: u66 :: u67 :: []).toArray, []⟩ W2 := by
  have hlv := leavesM_sub hv L hi (everyN m)
  have hlv2 := leavesM_in hv hL i (everyN m)
  have hmb := hO.mb_lt
  have hr6 := fun Q hQ hP hexit => where_r6 (u0 := u0) (u1 := u1) (u2 := u2) (u3 := u3) (u6 := u6) (u7 := u7) (u12 := u12) (u13 := u13) (u14 := u14) (u15 := u15) (u16 := u16) (u17 := u17) (u18 := u18) (u19 := u19) (u20 := u20) (u21 := u21) (u22 := u22) (u23 := u23) (u24 := u24) (u25 := u25) (u26 := u26) (u27 := u27) (u28 := u28) (u29 := u29) (u30 := u30) (u31 := u31) (u32 := u32) (u33 := u33) (u34 := u34) (u35 := u35) (u36 := u36) (u37 := u37) (u38 := u38) (u39 := u39) (u40 := u40) (u41 := u41) (u42 := u42) (u43 := u43) (u44 := u44) (u45 := u45) (u46 := u46) (u47 := u47) (u48 := u48) (u49 := u49) (u50 := u50) (u51 := u51) (u52 := u52) (u53 := u53) (u54 := u54) (u55 := u55) (u56 := u56) (u57 := u57) (u58 := u58) (u59 := u59) (u60 := u60) (u61 := u61) (u62 := u62) (u63 := u63) (u64 := u64) (u65 := u65) (u66 := u66) (u67 := u67) hv hO hL i hi l Q hQ hP W2 n1 n2 z p9 p10 t11 hW c8 c1 c11 hne.1 hne.2.1 hne.2.2.2.2.2.1 hexit
  have HR6 := Lib.hid hr6
  have hrg : orL S ((rangeI (leavesM m L i (everyN m)).1 (leavesM m L i (everyN m)).2).map fun n => nowP m L s n day) = daySet m L s day (leavesM m L i (everyN m)).1 S ((leavesM m L i (everyN m)).2 - (leavesM m L i (everyN m)).1 + 1).toNat := by
    rw [daySet_eq]; unfold rangeI; rw [List.map_map]; rfl
  rw [hrg] at hexit
  clear hrg hr6
  have HX := Lib.hid hexit
  clear hexit
  generalize leavesM m L i (everyN m) = lv at *
  obtain ⟨v1, v2⟩ := lv
  simp only at *
  have hDL := Lib.hid (fun k => daySet_lt hv L hs day v1 hS k)
  obtain ⟨K, hK⟩ : ∃ K, (v2 - v1 + 1).toNat = K := ⟨_, rfl⟩
  rw [hK] at HX
  conv => arg 4; whnf
  refine wpIn_seq ?_
  refine HR6.out _ (fun ⟨a, w, h⟩ => hQ ⟨a, w, h⟩) (fun c a w h => hP c a w h) ?_
  clear HR6
  intro x32 x33 x34 x35 x36 x37 x38 p W' hW' hl' hp hb
  simp only [Exit.then]
  have rb := hb.cell
  have hpz := hl'.size
  have hpn : p ≠ p9 := by have := c9.lt; omega
  (repeat (first | ((with_reducible refine wpIn_region_of ?_ ?_ ?_); (focus exact fun ⟨a, w, h⟩ => hQ ⟨a, w, h⟩); (focus rfl)) | gi_step))
  go_wp2_with fail
  gi_wp2_with fail
  gi_loopw [13] (fun iv wr => ∃ k : Nat, k ≤ K ∧ iv = .int .i64 (v1 + (k : Int)) ∧ Way W0 mb m wr ∧ Lets (fun j _ => j = p9) W' wr ∧ Blk wr p9 #[.int .i64 (daySet m L s day v1 S k : Nat)] 3) (fun iv _ => (v2 + 1 - intOf iv).toNat)
  case atStart =>
    refine ⟨0, Nat.zero_le _, by go_num, hW', Lets.refl _ _, hl'.blk c9 (by omega)⟩
  case round =>
    obtain ⟨k, hk, rfl, hWr, hLr, hBr⟩ := hrel
    have hbr := hLr.blk hb (by omega)
    have rb := hbr.cell
    have hDk := hDL.out k
    have e8 := hLr.blk (hl'.blk c8 hne.1) (fun e => h9.1 e.symm)
    have e2 := hLr.blk (hl'.blk c2 hne.2.2.1) (fun e => h9.2.1 e.symm)
    have e10 := hLr.blk (hl'.blk c10 hne.2.2.2.2.1) (fun e => h9.2.2.2.1 e.symm)
    have e11 := hLr.blk (hl'.blk c11 hne.2.2.2.2.2.1) (fun e => h9.2.2.1 e.symm)
    obtain ⟨r, hr⟩ := hlp
    have hlr : ∃ r, wr.heap[l]? = some (.loop r) := ⟨r, (hLr.block l (by have := (Array.getElem?_eq_some_iff.1 hr).1; have := hl'.size; omega) hne.2.2.2.2.2.2.2).trans ((hl'.block l (Array.getElem?_eq_some_iff.1 hr).1 hne.2.2.2.2.2.2.1).trans hr)⟩
    have HS1 : Hid (daySet m L s day v1 S (k + 1) = daySet m L s day v1 S k ||| 2 ^ nowP m L s (v1 + k) day) := rfl
    clear hDL c8 c1 c2 c9 c10 c11 hr
    by_cases hlt : k < K
    · have hle : v1 + (k : Int) ≤ v2 := by omega
      refine wpIn_seq_hid fun K2 HK2 => ?_
      (repeat (first | ((with_reducible refine wpIn_region_of ?_ ?_ ?_); (focus exact fun ⟨a, w, h⟩ => hQ ⟨a, w, h⟩); (focus rfl)) | gi_step))
      go_wp2_with fail
      gi_wp2_with fail
      refine HK2.out _ _ ?_
      clear HK2
      refine wpIn_seq_hid fun K3 HK3 => ?_
      refine wpIn_block ?_
      refine where_day hv hO hL s hs q2 q3 q4 (v1 + (k : Int)) day (by omega) (by omega) _ hDk l _ ?hq ?hp wr z t11 n2 p9 p10 hWr e8 e2 hBr e10 e11 hlr ⟨h9.1, h9.2.1, h9.2.2.1, h9.2.2.2.1⟩ h90 ?hx
      case hq => exact fun ⟨a, w, h⟩ => hQ ⟨a, w, h⟩
      case hp => exact fun c a w h => hP c a w h
      intro y14 y47 y48 y49 y50 y51 y52 y53 y54 y55 y56 y63 y64 y65 y66 W3 hl3 hb3
      simp only [Exit.inBlock, Exit.then]
      refine HK3.out _ _ ?_
      rw [← HS1.out] at hb3
      have hW3 : Way W0 mb m W3 := hWr.lets hl3 hmb (fun _ _ e => by omega)
      have hL3 := hLr.trans hl3
      obtain ⟨SS, hSS⟩ : ∃ SS, daySet m L s day v1 S (k + 1) = SS := ⟨_, rfl⟩
      rw [hSS] at hb3
      have HSS := Lib.hid hSS
      clear hSS HS1
      (repeat (first | ((with_reducible refine wpIn_region_of ?_ ?_ ?_); (focus exact fun ⟨a, w, h⟩ => hQ ⟨a, w, h⟩); (focus rfl)) | gi_step))
      go_wp2_with fail
      gi_wp2_with fail
      exact ⟨⟨k + 1, by omega, by go_num, hW3, hL3, by rw [HSS.out]; exact hb3⟩, by simp [intOf]; omega⟩
    · have hle : ¬ v1 + (k : Int) ≤ v2 := by omega
      have hkK : k = K := by omega
      (repeat (first | ((with_reducible refine wpIn_region_of ?_ ?_ ?_); (focus exact fun ⟨a, w, h⟩ => hQ ⟨a, w, h⟩); (focus rfl)) | gi_step))
      go_wp2_with fail
      gi_wp2_with fail
      refine HX.out _ _ _ _ _ _ _ _ _ _ _ _ _ _ _ _ _ _ _ _ _ _ _ _ _ _ _ _ _ _ _ _ _ _ _ _ _ _ _ _ _ hWr ((hl'.mono fun _ _ e => .inl e).trans (hLr.mono fun _ _ e => .inr e)) ?_
      rw [← hkK]; exact hBr
end Go.Proofs.YteeinehpneppnaaGreat
