/- Parts of a proof: BnAJ, BnAK, BnAL. -/
import Derived.Test.YtjbjmoghloabpaaM28
import Derived.Test.YtjbjmoghloabpaaM31
import Derived.Test.YtjbjmoghloabpaaM23
import Derived.Test.YtjbjmoghloabpaaM17
import Derived.Test.YtjbjmoghloabpaaM19
/- Clash: the sets in the order of their sizes; the first one that is so. -/
set_option linter.unusedVariables false
set_option linter.unusedSimpArgs false
namespace Go.Proofs.Ytjbjmoghloabpaa
open Go.RowKit Go.Proofs
attribute [local irreducible] Ord.walk
open Go.Sort Go.Shelf Go.Lib
def u64V (n : Nat) : Value := .int .u64 (n : Nat)
/-- A row of uints. -/
def USl (w : World) (g : Nat) (l : List Nat) : Prop := ∀ i, (h : i < l.length) → w.cell? ⟨g, i, none⟩ = some (.int .u64 (l[i] : Nat))
theorem USl.below {w w' : World} {g : Nat} {l : List Nat} {n : Nat} (h : USl w g l) (hb : Below n w w') (hg : g < n) : USl w' g l := fun i hi => (hb.cell (p := ⟨g, i, none⟩) hg).trans (h i hi)
theorem below_sort {α : Type} [Inhabited α] (enc : α → Value) (w : World) (g n : Nat) (d : Array α) (os : Array Obj) (base : Nat) (hb : base ≤ g) (hg : g < w.heap.size) : Below base w (sortWorld enc w g 0 n d os) := by
  refine ⟨rfl, rfl, rfl, ?_, ?_⟩
  · unfold sortWorld; rw [size_grow, size_putRow]; show w.heap.size ≤ w.heap.size + _; omega
  · intro k hk
    show ((putRow enc (Sort.ahead w n) g 0 d).heap ++ os)[k]? = _
    rw [Array.getElem?_append_left (by rw [size_putRow]; show k < w.heap.size; omega)]
    show (w.heap.modify g _)[k]? = _
    rw [Array.getElem?_modify, if_neg (by omega)]
def SortedAll (base g k : Nat) (w : World) (e : Ending) (w' : World) : Prop := e = .returned (.tuple #[]) ∧ Below base w w' ∧ USl w' g (Stab.bySize k) ∧ g < w'.heap.size
theorem b_sortAll (w : World) (base : Nat) (v : Value) (k : Nat) (hk : k ≤ 8) (h : w.ownsRow base 73 1 v (2 ^ k) ((List.range (2 ^ k)).map u64V)) :
    ∃ g cap, v = .slice (some ⟨g, 0, none⟩) (2 ^ k) cap ∧ base ≤ g ∧ Calls Try.prog 84 #[v, .func (.func 85) #[] #[]] w (SortedAll base g k w) := by
  obtain ⟨h1, h2⟩ := h
  have hp : 0 < 2 ^ k := Nat.pow_pos (by omega)
  have hp8 : 2 ^ k ≤ 2 ^ 8 := Nat.pow_le_pow_right (by omega) hk
  have e8 : (2 : Nat) ^ 8 = 256 := rfl
  rcases h2 with ⟨_, h0⟩ | ⟨g, cap, cur, rfl, hg, hh, hn, hc, hs, ht⟩
  · omega
  · refine ⟨g, cap, rfl, hg, ?_⟩
    have hB : Blk w g cur 73 := hh
    have hcur : ∀ j, j < 2 ^ k → cur[j]? = some (u64V j) := by
      intro j hj
      have : (cur.toList.take (2 ^ k * 1))[j]? = ((List.range (2 ^ k)).map u64V)[j]? := by rw [ht]
      rw [List.getElem?_take, if_pos (by omega), List.getElem?_map, List.getElem?_range hj] at this
      simpa using this
    have hsz : (Stab.to8 (List.range (2 ^ k))).toArray.size = 2 ^ k := by simp [Stab.to8]
    have hH : Holds enc8 w g 0 (Stab.to8 (List.range (2 ^ k))).toArray := by
      intro j hj
      rw [hsz] at hj
      refine ⟨?_, ?_⟩
      · rw [Nat.zero_add, hB.cell, hcur j hj]
        congr 1
        have : (Stab.to8 (List.range (2 ^ k))).toArray[j]! = Fin.ofNat 256 j := by
          rw [getElem!_pos _ j (by rw [hsz]; exact hj)]; simp [Stab.to8]
        rw [this]
        show Value.int .u64 (j : Nat) = Value.int .u64 ((Fin.ofNat 256 j).val : Nat)
        rw [Fin.val_ofNat, Nat.mod_eq_of_lt (by omega)]
      · rw [Nat.zero_add]; exact hB.free j
    have R : Row1 enc8 w g 0 (Stab.to8 (List.range (2 ^ k))).toArray := ⟨fun _ => rfl, hH, hB.lt⟩
    have eg : ∀ args w, (callFunc 85 args).run Try.prog w = .ok (.enter 85 args) w := fun args W => Try.call85 args W
    refine (sortStable_w enc8 cf8 85 #[] g 0 cap (2 ^ k) _ (Stab.to8 (List.range (2 ^ k))).toArray w w eg (cmp8 g 0 _ w) R hsz hsz (by omega) (SW.start hH)).mono ?_
    rintro e w' ⟨rfl, S⟩
    rw [Stab.stable_all k hk] at S
    have hH2 := S.holds hB.lt hH (by simp [Stab.to8, (Stab.bySize_all k hk).2.1])
    refine ⟨rfl, ?_, ?_, S.lt hB.lt⟩
    · obtain ⟨n, os, rfl⟩ := S
      exact below_sort enc8 w g n _ os base hg hB.lt
    · intro i hi
      have := (hH2 i (by simpa [Stab.to8] using hi)).1
      rw [Nat.zero_add] at this
      rw [this]
      congr 1
      have hb := List.all_eq_true.1 (Stab.bySize_all k hk).2.2 _ (List.getElem_mem hi)
      rw [Nat.blt_eq] at hb
      rw [getElem!_pos _ i (by simpa [Stab.to8] using hi)]
      show Value.int .u64 (((Stab.to8 (Stab.bySize k)).toArray[i]'(by simpa [Stab.to8] using hi)).val : Nat) = _
      simp only [Stab.to8, List.getElem_toArray, List.getElem_map, Fin.val_ofNat]
      rw [Nat.mod_eq_of_lt (by omega)]

set_option maxHeartbeats 1000000 in
set_option maxRecDepth 100000 in
theorem b_idx (F : FuncId) (cb : Array Value) (p : Nat → Bool) (l : List Nat) (g cap n : Nat) (r : Int) (w : World) (hl : l.length ≤ 256) (hx : ∀ x ∈ l, x < 256) (hn : n ≤ l.length) (hlo : ∀ j, (h : j < n) → p (l[j]'(by omega)) = false) (hhi : (h : n < l.length) → p l[n] = true) (hr1 : n < l.length → r = n) (hr2 : n = l.length → r = -1)
    (hcf : ∀ (args : Array Value) (W : World), (callFunc F args).run Try.prog W = .ok (.enter F args) W) (hU : USl w g l) (hg : g < w.heap.size)
    (HP : ∀ w' x, Below w.heap.size w w' → x < 256 → Calls Try.prog F (#[.int .u64 (x : Nat)] ++ cb) w' (Gives (.bool (p x)) w')) :
    Calls Try.prog 104 #[.slice (some ⟨g, 0, none⟩) l.length cap, .func (.func F) #[] cb] w (Gives (.int .i64 r) w) := by
  have HU := Lib.hid hU
  have HPP := Lib.hid HP
  have HX := Lib.hid hx
  have HLO := Lib.hid hlo
  have HHI := Lib.hid hhi
  have HR1 := Lib.hid hr1
  have HR2 := Lib.hid hr2
  clear hU HP hx hlo hhi hr1 hr2
  go_enter Try.func104, Try.ntmps104
  go_wp2_with fail
  go_loopw [8] (fun i wr => ∃ k : Nat, k ≤ n ∧ i = .int .i64 k ∧ Below w.heap.size w wr) (fun i _ => n + 1 - (intOf i).toNat)
  case atStart => exact ⟨0, by omega, rfl, Below.refl _ _⟩
  case round =>
    obtain ⟨k, hk, rfl, hbw⟩ := hrel
    by_cases hlt : k < l.length
    · have hlti : (k : Int) < (l.length : Int) := by omega
      have cu := (HU.out.below hbw hg) k hlt
      have HPk := Lib.hid (HPP.out wr (l[k]) hbw (HX.out _ (List.getElem_mem hlt)))
      obtain ⟨x, hxk⟩ : ∃ x, l[k] = x := ⟨_, rfl⟩
      by_cases hkn : k < n
      · have hpf := HLO.out k hkn
        rw [hpf] at HPk
        rw [hxk] at HPk cu
        clear hpf hxk
        go_wp2_with fail
        refine HPk.out.mono ?_
        rintro e w2 ⟨rfl, hb2⟩
        go_wp2_with fail
        exact ⟨⟨k + 1, by omega, by go_num, hbw.trans (hb2.mono hbw.size)⟩, by simp [intOf]; omega⟩
      · have e : k = n := by omega
        subst e
        have hpt := HHI.out hlt
        rw [hpt] at HPk
        rw [hxk] at HPk cu
        clear hpt hxk
        go_wp2_with fail
        refine HPk.out.mono ?_
        rintro e w2 ⟨rfl, hb2⟩
        go_wp2_with fail
        go_ret
        have e3 := HR1.out hlt
        subst e3
        exact ⟨rfl, hbw.trans (hb2.mono hbw.size)⟩
    · have hlti : ¬ (k : Int) < (l.length : Int) := by omega
      have e : k = n := by omega
      subst e
      have e2 : k = l.length := by omega
      have hr := HR2.out e2
      clear HR1 HR2 HLO HHI
      go_wp2_with fail
      go_ret
      subst hr
      exact ⟨rfl, hbw⟩
end Go.Proofs.Ytjbjmoghloabpaa
/- Clash: its closures, and the first of some things that is so. -/
set_option linter.unusedVariables false
set_option linter.unusedSimpArgs false
namespace Go.Proofs.Ytjbjmoghloabpaa
open Go.RowKit Go.Proofs
attribute [local irreducible] Ord.walk
open Go.Sort Go.Shelf Go.Lib
set_option maxHeartbeats 4000000 in
set_option maxRecDepth 100000 in
theorem b_clash3 {w : World} {v : Nat} {b : Bn} {V : Nat} {ks : List Kn} {ga : Option Addr} {gc : Nat} {pa : Option Addr} {pc : Nat} {ka : Option Addr} {kc : Nat} (h : Vt w v b V ks ga gc pa pc ka kc) (p : Nat) (hp : w.cell? ⟨p, 0, none⟩ = some (.pointer (some ⟨v, 0, none⟩))) (x : Nat) (hx : x < 256) :
    Calls Try.prog 88 #[.int .u64 (x : Nat), .pointer (some ⟨p, 0, none⟩)] w (Gives (.bool (decide (csum (countN V b.lo b.hi (sel ks x [])) = 0))) w) := by
  have HC := Lib.hid (fun w' (hb : Below w.heap.size w w') => (h.below hb).counts [] none 0 x (by omega) (by intro i hi; simp at hi) (by simp) (by simp) (fun _ => rfl))
  have hle := countN_sum V h.hV8 b.lo b.hi (sel ks x [])
  have HA := Lib.hid (b_all (countN V b.lo b.hi (sel ks x [])) (by omega))
  generalize csum (countN V b.lo b.hi (sel ks x [])) = S at *
  generalize cv (countN V b.lo b.hi (sel ks x [])) = CV at *
  go_enter Try.func88, Try.ntmps88
  go_wp2_with (first
    | (go_at_call 56; refine (HC.out _ (by (repeat (first | assumption | exact Below.refl _ _ | refine Below.drew ?_ | refine Below.alloc ?_ (by first | omega | (simp; done) | (simp; omega)) _ | refine Below.setCell ?_ (by first | omega | (simp; done) | (simp; omega)) _ | refine Below.trans ?_ (Below.mono (by assumption) (by first | omega | (simp; done) | (simp; omega))))))).mono ?_; rintro e w1 ⟨rfl, hb1⟩)
    | (go_at_call 54; refine (HA.out _).mono ?_; rintro e w3 ⟨rfl, hb3⟩))
  go_ret
  refine ⟨ret_bool ?_, ?_⟩
  · rw [Bool.eq_iff_iff]; simp
  · exact hb1.trans (hb3.mono hb1.size)
set_option maxHeartbeats 4000000 in
set_option maxRecDepth 100000 in
theorem b_first_yes (F : FuncId) (cb : Array Value) (p : Nat → Bool) (l : List Nat) (g cap n : Nat) (w : World) (hl : l.length ≤ 256) (hx : ∀ x ∈ l, x < 256) (hn : n < l.length) (hlo : ∀ j, (h : j < n) → p (l[j]'(by omega)) = false) (hhi : p l[n] = true)
    (hcf : ∀ (args : Array Value) (W : World), (callFunc F args).run Try.prog W = .ok (.enter F args) W) (hU : USl w g l) (hg : g < w.heap.size)
    (HP : ∀ w' x, Below w.heap.size w w' → x < 256 → Calls Try.prog F (#[.int .u64 (x : Nat)] ++ cb) w' (Gives (.bool (p x)) w')) :
    Calls Try.prog 87 #[.slice (some ⟨g, 0, none⟩) l.length cap, .agg #[.func (.func F) #[] cb]] w (Gives (.int .u64 (l[n] : Nat)) w) := by
  have HI := Lib.hid (fun w' (hb : Below w.heap.size w w') => b_idx F cb p l g cap n (n : Int) w' hl hx (by omega) hlo (fun _ => hhi) (fun _ => rfl) (by omega) hcf (hU.below hb hg) (by have := hb.size; omega) (fun w2 x hb2 hx2 => HP w2 x (hb.trans (hb2.mono hb.size)) hx2))
  have HM := Lib.hid b_must_yes
  have hlti : (n : Int) < (l.length : Int) := by omega
  have hU2 := Lib.hid (fun w' (hb : Below w.heap.size w w') => (hU.below hb hg) n hn)
  generalize l[n] = y at *
  clear hlo hhi hx HP hU hcf
  go_enter Try.func87, Try.ntmps87
  go_wp2_with (first
    | (go_at_call 104; refine (HI.out _ (by (repeat (first | assumption | exact Below.refl _ _ | refine Below.drew ?_ | refine Below.alloc ?_ (by first | omega | (simp; done) | (simp; omega)) _ | refine Below.setCell ?_ (by first | omega | (simp; done) | (simp; omega)) _ | refine Below.trans ?_ (Below.mono (by assumption) (by first | omega | (simp; done) | (simp; omega))))))).mono ?_; rintro e w1 ⟨rfl, hb1⟩; have cu := hU2.out w1 (by (repeat (first | assumption | exact Below.refl _ _ | refine Below.drew ?_ | refine Below.alloc ?_ (by first | omega | (simp; done) | (simp; omega)) _ | refine Below.setCell ?_ (by first | omega | (simp; done) | (simp; omega)) _ | refine Below.trans ?_ (Below.mono (by assumption) (by first | omega | (simp; done) | (simp; omega)))))))
    | (go_at_call 76; refine (HM.out _ _).mono ?_; rintro e w' ⟨rfl, rfl⟩))
  go_ret
  refine ⟨rfl, ?_⟩
  (repeat (first | assumption | exact Below.refl _ _ | refine Below.drew ?_ | refine Below.alloc ?_ (by first | omega | (simp; done) | (simp; omega)) _ | refine Below.setCell ?_ (by first | omega | (simp; done) | (simp; omega)) _ | refine Below.trans ?_ (Below.mono (by assumption) (by first | omega | (simp; done) | (simp; omega)))))
theorem b_first_no (F : FuncId) (cb : Array Value) (p : Nat → Bool) (l : List Nat) (g cap : Nat) (w : World) (hl : l.length ≤ 256) (hx : ∀ x ∈ l, x < 256) (hlo : ∀ j, (h : j < l.length) → p l[j] = false)
    (hcf : ∀ (args : Array Value) (W : World), (callFunc F args).run Try.prog W = .ok (.enter F args) W) (hU : USl w g l) (hg : g < w.heap.size)
    (HP : ∀ w' x, Below w.heap.size w w' → x < 256 → Calls Try.prog F (#[.int .u64 (x : Nat)] ++ cb) w' (Gives (.bool (p x)) w')) :
    Calls Try.prog 87 #[.slice (some ⟨g, 0, none⟩) l.length cap, .agg #[.func (.func F) #[] cb]] w (Stops 4 w) := by
  have HI := Lib.hid (fun w' (hb : Below w.heap.size w w') => b_idx F cb p l g cap l.length (-1) w' hl hx (by omega) hlo (fun h => absurd h (by omega)) (fun h => absurd h (by omega)) (fun _ => rfl) hcf (hU.below hb hg) (by have := hb.size; omega) (fun w2 x hb2 hx2 => HP w2 x (hb.trans (hb2.mono hb.size)) hx2))
  have HM := Lib.hid b_must_no
  clear hlo hx HP hU hcf
  go_enter Try.func87, Try.ntmps87
  go_wp2_with (first
    | (go_at_call 104; refine (HI.out _ (by (repeat (first | assumption | exact Below.refl _ _ | refine Below.drew ?_ | refine Below.alloc ?_ (by first | omega | (simp; done) | (simp; omega)) _ | refine Below.setCell ?_ (by first | omega | (simp; done) | (simp; omega)) _ | refine Below.trans ?_ (Below.mono (by assumption) (by first | omega | (simp; done) | (simp; omega))))))).mono ?_; rintro e w1 ⟨rfl, hb1⟩)
    | (go_at_call 76; refine (HM.out _ _).mono ?_; rintro e w' ⟨rfl, rfl⟩))
  refine ⟨rfl, rfl, ?_⟩
  (repeat (first | assumption | exact Below.refl _ _ | refine Below.drew ?_ | refine Below.alloc ?_ (by first | omega | (simp; done) | (simp; omega)) _ | refine Below.setCell ?_ (by first | omega | (simp; done) | (simp; omega)) _ | refine Below.trans ?_ (Below.mono (by assumption) (by first | omega | (simp; done) | (simp; omega)))))
end Go.Proofs.Ytjbjmoghloabpaa
/- Package bean: Clash, where the vote is valid. -/
set_option linter.unusedVariables false
set_option linter.unusedSimpArgs false
namespace Go.Proofs.Ytjbjmoghloabpaa
open Go.RowKit Go.Proofs
attribute [local irreducible] Ord.walk
open Go.Sort Go.Shelf Go.Lib
/-- Is there no truth by what of a set is known? -/
def noneB (b : Bn) (x : Nat) : Bool := decide (csum (countN b.V.toNat b.lo b.hi (sel (knOf b) x [])) = 0)
def ClashPost (r : Option Nat) (w : World) (e : Ending) (w' : World) : Prop :=
  (match r with | some x => e = .returned (.tuple #[.int .i64 (x : Nat), .int .i64 0]) | none => e = .returned (.tuple #[.int .i64 0, .int .i64 4])) ∧ Go.RowKit.Below w.heap.size w w'
theorem Try.info73 : (Try.prog.info? 73).map (fun i => (i.zero, i.size, i.bytes)) = some (some (.int .u64 0), 1, 8) := by kernel_rfl

set_option maxHeartbeats 4000000 in
set_option maxRecDepth 100000 in
theorem b_Clash_valid (b : Bn) (ga : Option Addr) (gc : Nat) (pa : Option Addr) (pc : Nat) (w : World) (hg : GsAt w ga b.gs) (hp : PsAt w pa b.ps) (hv : valid b = true) :
    Calls Try.prog 30 #[bv b ga gc pa pc] w (ClashPost ((Stab.bySize (knOf b).length).find? (noneB b)) w) := by
  have hmf : ∀ (fn : Fn) (first cap : Array Value) (w : World), (Instr.makeFunc fn first cap).run Try.prog w = .ok (.func fn first cap) w := fun _ _ _ _ => rfl
  have HO := Lib.hid (fun w' (hb : Go.RowKit.Below w.heap.size w w') => b_open_ok b ga gc pa pc 46 #[] w' (hg.below hb) (hp.below hb) hv (fun args W => Try.call46 args W) (fun w2 v _ _ => b_always _ _))
  have HC := Lib.hid catch_Clash
  have HS := Lib.hid (b_sortAll)
  obtain ⟨K, hK⟩ : ∃ K, (knOf b).length = K := ⟨_, rfl⟩
  obtain ⟨E, hE⟩ : ∃ E : Nat, 2 ^ K = E + 1 := ⟨2 ^ K - 1, by have := Nat.two_pow_pos K; omega⟩
  have HE := Lib.hid hE
  have hE1 : 2 ^ K - 1 = E := by omega
  have hE2 : 2 ^ (knOf b).length - 1 = E := by rw [hK]; exact hE1
  have HE2 := Lib.hid hE2
  have HK := Lib.hid hK
  clear hE hE1 hE2 hK
  unfold bv at *
  go_enter_defers Try.func30, Try.ntmps30
  go_wp2_with (first
    | (go_at_call 45; refine (HO.out _ (by (repeat (first | assumption | exact Below.refl _ _ | refine Below.drew ?_ | refine Below.alloc ?_ (by first | omega | (simp; done) | (simp; omega)) _ | refine Below.setCell ?_ (by first | omega | (simp; done) | (simp; omega)) _ | refine Below.trans ?_ (Below.mono (by assumption) (by first | omega | (simp; done) | (simp; omega))))))).mono ?_; rintro e w1 ⟨v, ka, kc, rfl, hvt, hb1, hle⟩))
  obtain ⟨w2, hw2⟩ : ∃ w2, w2 = w1.alloc (.cells #[.pointer (some ⟨v, 0, none⟩)] 63) := ⟨_, rfl⟩
  have hsz1 : w.heap.size + 2 ≤ w1.heap.size := by have := hb1.size; simpa using this
  have hB12 : Go.RowKit.Below w1.heap.size w1 w2 := by rw [hw2]; exact (Go.RowKit.Below.refl _ _).alloc (Nat.le_refl _) _
  have hB1 : Go.RowKit.Below w.heap.size w w1 := ((((Go.RowKit.Below.refl _ _).alloc (Nat.le_refl _) _).alloc (by first | omega | (simp; done) | (simp; omega)) _).trans (hb1.mono (by first | omega | (simp; done) | (simp; omega))))
  have hB2 : Go.RowKit.Below w.heap.size w w2 := hB1.trans (hB12.mono hB1.size)
  have b3 : Blk w2 (w.heap.size + 1) #[.int .i64 0] 30 := (((Blk.new' _ _ _ _ (by simp)).below hb1 (by first | omega | (simp; done) | (simp; omega))).below hB12 (by omega))
  have b4 : Blk w2 w1.heap.size #[.pointer (some ⟨v, 0, none⟩)] 63 := by rw [hw2]; exact Blk.new _ _ _
  have hvt2 := hvt.below hB12
  have hk8 := hvt.hkl
  rw [HK.out] at hk8
  have hE8 : E ≤ 255 := by
    have h1 := HE.out
    have h2 := Nat.pow_le_pow_right (show 0 < 2 by omega) hk8
    have e8 : (2 : Nat) ^ 8 = 256 := rfl
    omega
  have HEv : Hid (∀ w', Go.RowKit.Below w2.heap.size w2 w' → Calls Try.prog 57 #[.pointer (some ⟨v, 0, none⟩)] w' (Same (.int .u64 (E : Nat)) w')) := by
    intro w' hb
    have := (hvt2.below hb).every
    rwa [HE2.out] at this
  obtain ⟨p1, hp1⟩ : ∃ p1, w1.heap.size = p1 := ⟨_, rfl⟩
  rw [← hw2]
  rw [hp1] at b4
  simp only [hp1]
  have hz2 : w2.heap.size = p1 + 1 := by rw [hw2]; simp [hp1]
  have hz2' := Lib.hid hz2
  clear hw2 hp1 hb1 hvt hsz1 hB12 hB1 hle hz2
  with_reducible refine (HEv.out _ (Go.RowKit.Below.refl _ _)).mono ?_
  rintro e w' ⟨rfl, rfl⟩
  obtain ⟨i0, hi, hz0, hz1, hz2⟩ := info_parts Try.info73
  go_wp2_with fail
  go_loopw [5, 13] (fun a i wr => ∃ k : Nat, k ≤ E + 1 ∧ i = .int .u64 k ∧ Go.RowKit.Below w2.heap.size w2 wr ∧ wr.ownsRow w2.heap.size 73 1 a k ((List.range k).map u64V)) (fun _ i _ => E + 1 - (intOf i).toNat)
  case atStart => exact ⟨0, by omega, rfl, Go.RowKit.Below.refl _ _, World.ownsRow_nil _ _ _ _⟩
  case round =>
    obtain ⟨k, hk, rfl, hB, hown⟩ := hrel
    by_cases hlt : k < E + 1
    · have hlti : (k : Int) < (E : Int) + 1 := by omega
      have hBs := hB.size
      go_wp2_with (first
        | (at_builtin; refine at_stop ?_))
      unfold Stop
      refine wpList_append_own _ rfl _ _ 95 rfl w2.heap.size 73 i0 (.int .u64 0) 1 8 Try.underlying95 hi hz0 hz1 hz2 rfl (by decide) _ _ _ rfl (hown.alloc _) ⟨wr.heap.size, 0, none⟩ 1 1 [.int .u64 k] rfl rfl (cell_one_new _ _ _) (by simp [Value.oneCell']) (by unfold maxLen; omega) (by omega) (by simp; omega) ?_
      intro v' w3 hown' hgrow _
      go_wp2_with fail
      have hBC := (hB.alloc hB.size (.cells #[.int .u64 k] 73)).grown hgrow (by simp; omega) (fun j e => (hown.lt j e).1)
      refine ⟨⟨k + 1, by omega, by go_num, hBC, ?_⟩, by simp [intOf]; omega⟩
      rw [List.range_succ, List.map_append]
      exact hown'
    · have hlti : ¬ (k : Int) < (E : Int) + 1 := by omega
      obtain rfl : k = E + 1 := by omega
      obtain ⟨g, cap, rfl, hg2, hcall⟩ := HS.out wr w2.heap.size u5 K hk8 (by rw [HE.out]; exact hown)
      have hz2 := hz2'.out
      have hHS := Lib.hid hcall
      obtain ⟨-, hlen, hall⟩ := Stab.bySize_all K hk8
      have hall2 : ∀ x ∈ Stab.bySize K, x < 256 := by
        intro x hx
        have := List.all_eq_true.1 hall x hx
        rw [Nat.blt_eq] at this
        have h1 := HE.out
        omega
      rw [HK.out]
      have hlen2 := Lib.hid hlen
      clear hcall hown hall hlen HS
      go_wp2_with (first
        | (go_at_call 84; refine hHS.out.mono ?_; rintro e w5 ⟨rfl, hB5, hU, hgl⟩; refine at_stop ?_))
      unfold Stop
      have hB25 : Go.RowKit.Below w2.heap.size w2 w5 := hB.trans hB5
      have hvt5 := hvt2.below hB25
      have b5 := b3.below hB25 b3.lt
      have c5 := (b4.below hB25 b4.lt).cell 0
      have hBw5 : Go.RowKit.Below w.heap.size w w5 := hB2.trans (hB25.mono hB2.size)
      have HP := Lib.hid (fun w' x (hb : Go.RowKit.Below w5.heap.size w5 w') (hx : x < 256) => b_clash3 (hvt5.below hb) p1 ((hb.cell (p := ⟨p1, 0, none⟩) (b4.below hB25 b4.lt).lt).trans c5) x hx)
      clear hB5 hHS hB
      go_wp2_with (first
        | (go_at_call 87; refine at_stop ?_))
      unfold Stop
      rw [← hlen2.out]
      have hl256 : (Stab.bySize K).length ≤ 256 := by rw [hlen2.out, HE.out]; omega
      have hcf : ∀ (args : Array Value) (W : World), (callFunc 88 args).run Try.prog W = .ok (.enter 88 args) W := fun args W => Try.call88 args W
      cases hf : (Stab.bySize K).find? (noneB b) with
      | none =>
        have hno := List.find?_eq_none.1 hf
        refine (b_first_no 88 #[.pointer (some ⟨p1, 0, none⟩)] (noneB b) (Stab.bySize K) g cap w5 hl256 hall2 (fun j h => by simpa using hno _ (List.getElem_mem h)) hcf hU hgl (fun w' x hb hx => HP.out w' x hb hx)).mono ?_
        rintro e w6 ⟨rfl, hb6⟩
        have b6 := b5.below hb6 b5.lt
        have hB6 : Go.RowKit.Below w.heap.size w w6 := hBw5.trans (hb6.mono hBw5.size)
        refine leaves_cons (f := 83) (args := #[.pointer (some ⟨w.heap.size + 1, 0, none⟩)]) (by simp) (by simp [go_sem]) ?_
        refine ((HC.out).1 4 (w.heap.size + 1) _ b6).mono ?_
        rintro e u' w7 ⟨rfl, rfl, ho, hb⟩
        have hB7 : Go.RowKit.Below w.heap.size w w7 := hB6.trans (ho.below hB6.size (by simp))
        have r2 := hb.cell
        simp only [settle, Leaves]
        simp [Leaves, settle, results, Try.results30, go_sem, r2]
        exact ⟨by rw [HK.out, hf], hB7⟩
      | some y =>
        obtain ⟨hy, n, hn, hny, hlo⟩ := List.find?_eq_some_iff_getElem.1 hf
        refine (b_first_yes 88 #[.pointer (some ⟨p1, 0, none⟩)] (noneB b) (Stab.bySize K) g cap n w5 hl256 hall2 hn (fun j h => by simpa using hlo j h) (by rw [hny]; exact hy) hcf hU hgl (fun w' x hb hx => HP.out w' x hb hx)).mono ?_
        rw [hny]
        rintro e w6 ⟨rfl, hb6⟩
        have b6 := b5.below hb6 b5.lt
        have hB6 : Go.RowKit.Below w.heap.size w w6 := hBw5.trans (hb6.mono hBw5.size)
        have hyi : y < 256 := by rw [← hny]; exact hall2 _ (List.getElem_mem hn)
        have r6 := b6.cell
        have f6 := b6.free
        go_wp2_with fail
        refine leaves_cons (f := 83) (args := #[.pointer (some ⟨w.heap.size + 1, 0, none⟩)]) (by simp) (by simp [go_sem]) ?_
        refine ((HC.out).2 (w.heap.size + 1) _).mono ?_
        rintro e u' w7 ⟨rfl, rfl, rfl⟩
        have r7 := (b6.set 0 (.int .i64 0)).cell
        simp only [settle, Leaves]
        simp [Leaves, settle, results, Try.results30, go_sem, r7]
        exact ⟨by rw [HK.out, hf], hB6.setCell (by first | omega | (simp; done) | (simp; omega)) _⟩
end Go.Proofs.Ytjbjmoghloabpaa
