/- Parts of a proof: MbK, MbL, MbM, MbN, MoB, MoC. -/
import Derived.Test.YteeinehpneppnaaQ07
set_option linter.unusedVariables false
set_option linter.unusedSimpArgs false
namespace Go.Proofs.Yteeinehpneppnaa
open Go.RowKit Go.Proofs
attribute [local irreducible] Ord.walk
def shedN (m : Mb) : Nat := m.places.length - 1
end Go.Proofs.Yteeinehpneppnaa
set_option linter.unusedVariables false
set_option linter.unusedSimpArgs false
namespace Go.Proofs.Yteeinehpneppnaa
open Go.RowKit Go.Proofs
attribute [local irreducible] Ord.walk
theorem TruthsAt.below {w w' : World} {v : Value} {T : List (List Int × List Int)} (h : TruthsAt w v T) (hb : Below w.heap.size w w') : TruthsAt w' v T := by
  obtain ⟨a, c, rfl, hr⟩ := h
  refine ⟨a, c, rfl, fun i hi => ?_⟩
  obtain ⟨g, o, y, z, e, h1, h2, h3, h4⟩ := hr i hi
  exact ⟨g, o, y, z, e, cell_later hb h1, cell_later hb h2, h3.keep (KeepT.of_below hb : KeepT 0 50 w w') (by decide), h4.keep (KeepT.of_below hb : KeepT 0 50 w w') (by decide)⟩
/-- What a call of known yields where there is a truth. -/
theorem known_yes {m : Mb} {vb : Bool} (h : knownE m vb = 0) : validM m = true ∧ vb = true ∧ TM m ≠ [] := by
  unfold knownE at h
  cases hv : validM m
  · rw [hv] at h; simp at h
  · cases vb
    · rw [hv] at h; simp at h
    · refine ⟨rfl, rfl, fun e => ?_⟩
      rw [hv, e] at h; simp at h
theorem TruthsAt.get {w : World} {a : Option Addr} {n c : Nat} {T : List (List Int × List Int)} (h : TruthsAt w (.slice a n c) T) {k : Nat} (hk : k < T.length) :
    ∃ g o la lc da dc, a = some ⟨g, o, none⟩ ∧ w.cell? ⟨g, o + k * 2, none⟩ = some (.slice la (T[k]).1.length lc) ∧ w.cell? ⟨g, o + k * 2 + 1, none⟩ = some (.slice da (T[k]).2.length dc) ∧ IntsM w la (T[k]).1 ∧ IntsM w da (T[k]).2 := by
  obtain ⟨a', c', e, hr⟩ := h
  cases e
  obtain ⟨g, o, y, z, e1, h1, h2, h3, h4⟩ := hr k hk
  obtain ⟨la, lc, rfl, k3⟩ := h3.ints
  obtain ⟨da, dc, rfl, k4⟩ := h4.ints
  exact ⟨g, o, la, lc, da, dc, e1, h1, h2, k3, k4⟩
end Go.Proofs.Yteeinehpneppnaa
set_option linter.unusedVariables false
set_option linter.unusedSimpArgs false
namespace Go.Proofs.Yteeinehpneppnaa
open Go.RowKit Go.Proofs
attribute [local irreducible] Ord.walk
/-- Is a mob at the shed by a day in all truths; in some? -/
def byB (m : Mb) (d : Int) (h : Nat) (t : List Int × List Int) : Bool := decide (dayAt m t.1 t.2 h (shedN m) ≤ d)
def allT (m : Mb) (d : Int) (h : Nat) : Bool := (TM m).all (byB m d h)
def anyT (m : Mb) (d : Int) (h : Nat) : Bool := (TM m).any (byB m d h)
def sumSet (p : Nat → Bool) : Nat → Nat
  | 0 => 0
  | k + 1 => sumSet p k + if p k = true then 2 ^ k else 0
theorem sumSet_lt (p : Nat → Bool) : ∀ k, sumSet p k < 2 ^ k
  | 0 => by simp [sumSet]
  | k + 1 => by
    have := sumSet_lt p k
    simp only [sumSet, Nat.pow_succ]
    split <;> omega
def thereE (m : Mb) (d : Int) : Int × Int × Int := if knownE m (inB d 0 100) = 0 then ((sumSet (allT m d) m.herds.length : Nat), (sumSet (anyT m d) m.herds.length : Nat), 0) else (0, 0, knownE m (inB d 0 100))
end Go.Proofs.Yteeinehpneppnaa
set_option linter.unusedVariables false
set_option linter.unusedSimpArgs false
namespace Go.Proofs.Yteeinehpneppnaa
open Go.RowKit Go.Proofs
attribute [local irreducible] Ord.walk
/-- The best set behind some sets. -/
def bestTo (m : Mb) : Nat → Nat
  | 0 => everyN m
  | k + 1 => if sz k < sz (bestTo m k) ∧ (truthsM m k).length = 0 then k else bestTo m k
def clashR (m : Mb) : Int × Int := if validM m = false then (0, 1) else if TM m = [] then ((bestTo m (everyN m + 1) : Nat), 0) else (0, 4)
end Go.Proofs.Yteeinehpneppnaa
set_option linter.unusedVariables false
set_option linter.unusedSimpArgs false
namespace Go.Proofs.Yteeinehpneppnaa
open Go.RowKit Go.Proofs
attribute [local irreducible] Ord.walk
/-- The least span of the first spans. -/
def joinTo (l : List (Int × Int)) : Nat → Int × Int
  | 0 => (0, 0)
  | k + 1 => let x := l.getD k (0, 0); if k = 0 then x else (min (joinTo l k).1 x.1, max (joinTo l k).2 x.2)
def joinL (l : List (Int × Int)) : Int × Int := joinTo l l.length
set_option maxHeartbeats 40000000 in
set_option maxRecDepth 100000 in
theorem m_joined (l : List (Int × Int)) (a : Option Addr) (c : Nat) (w : World) (hl : l.length ≤ 1000000) (hr : RowsAt w a 2 spc l) :
    Calls Try.prog 97 #[.slice a l.length c] w (Gives (spv (joinL l)) w) := by
  have HJ : Hid (∀ k, joinTo l (k + 1) = if k = 0 then l.getD k (0, 0) else (min (joinTo l k).1 (l.getD k (0, 0)).1, max (joinTo l k).2 (l.getD k (0, 0)).2)) := fun _ => rfl
  have HE : Hid (joinL l = joinTo l l.length) := rfl
  have HZ : Hid (joinTo l 0 = (0, 0)) := rfl
  have hli : (l.length : Int) ≤ 1000000 := by omega
  generalize joinL l = R at *
  go_enter Try.func97, Try.ntmps97
  go_wp2_with fail
  obtain ⟨W1, hW1⟩ : ∃ W1, W1 = w.alloc (.cells #[.int .i64 0, .int .i64 0] 39) := ⟨_, rfl⟩
  have hB1 : Below w.heap.size w W1 := by rw [hW1]; exact (Below.refl _ _).alloc (Nat.le_refl _) _
  have b1 : Blk W1 w.heap.size #[.int .i64 (joinTo l 0).1, .int .i64 (joinTo l 0).2] 39 := by rw [hW1]; exact Blk.new _ _ _
  rw [← hW1]
  have hs1 : W1.heap.size = w.heap.size + 1 := by rw [hW1]; simp
  clear hW1
  generalize hz0 : w.heap.size = z0 at *
  have HZ0 := Lib.hid hz0
  clear hz0
  go_loopw [7] (fun i wr => ∃ k : Nat, k ≤ l.length ∧ i = .int .i64 k ∧ Below z0 W1 wr ∧ Blk wr z0 #[.int .i64 (joinTo l k).1, .int .i64 (joinTo l k).2] 39) (fun i _ => l.length - (intOf i).toNat)
  case atStart => exact ⟨0, Nat.zero_le _, rfl, Below.refl _ _, b1⟩
  case round =>
    clear b1
    obtain ⟨k, hk, rfl, hBr, br⟩ := hrel
    have hBw := hB1.trans hBr
    have hsr := hBr.size
    have rr := br.cell
    by_cases hlt : k < l.length
    · obtain ⟨gb, go, rfl, e1, e2⟩ := hr.get2 hlt
      have hgb : gb < z0 := by have h := World.block_lt_of_cell? w _ e1; rw [HZ0.out] at h; exact h
      have i1 := (hBw.cell (p := ⟨gb, go + k * 2, none⟩) hgb).trans e1
      have i2 := (hBw.cell (p := ⟨gb, go + k * 2 + 1, none⟩) hgb).trans e2
      have hlti : (k : Int) < l.length := by omega
      have HJk := Lib.hid (HJ.out k)
      have hge : l.getD k (0, 0) = l[k] := by rw [List.getD_eq_getElem?_getD, List.getElem?_eq_getElem hlt]; rfl
      rw [hge] at HJk
      generalize l[k] = x at *
      obtain ⟨x1, x2⟩ := x
      simp only at *
      clear e1 e2 hge HJ
      generalize joinTo l k = J at *
      obtain ⟨j1, j2⟩ := J
      simp only at *
      have hn : (wr.alloc (.cells #[.int .i64 0, .int .i64 0] 39)).heap.size = wr.heap.size + 1 := by simp
      have hbz : z0 < wr.heap.size := br.lt
      by_cases h0 : k = 0
      · have hk0 : ((k : Int) == 0) = true := by simp [h0]
        rw [if_pos h0] at HJk
        clear h0
        go_wp2_with (first
          | (refine wpList_store_blk 39 (.tmp 4) (.tmp 11) agg_span rfl rfl rfl rfl (Blk.new _ _ _) rfl rfl (by simp [Value.oneCell']) ?_; intro w5 h5; have c5 := h5.cell; have f5 := h5.free; have z5 := h5.size)
          | (refine wpList_store_blk 39 (.tmp 2) (.tmp 14) agg_span rfl rfl rfl rfl (h5.other (br.alloc _) (by omega)) rfl rfl (by simp [Value.oneCell']) ?_; intro w6 h6; have c6 := h6.cell; have f6 := h6.free; have z6 := h6.size)
          | (refine wpList_store_blk 39 (.tmp 2) (.tmp 25) agg_span rfl rfl rfl rfl (h6.blk) rfl rfl (by simp [Value.oneCell']) ?_; intro w7 h7; have c7 := h7.cell; have f7 := h7.free; have z7 := h7.size))
        refine ⟨⟨k + 1, by omega, by go_num, ?_, ?_⟩, by simp [intOf]; omega⟩
        · exact h7.below (h6.below (h5.below (hBr.alloc (by omega) _) (by omega)) (Nat.le_refl _)) (Nat.le_refl _)
        · have := h7.blk
          rw [HJk.out]
          have e1 : (if x1 < x1 then x1 else x1) = x1 := by split <;> rfl
          simpa using this
      · have hk0 : ((k : Int) == 0) = false := by simp; omega
        rw [if_neg h0] at HJk
        go_wp2_with (first
          | (refine wpList_store_blk 39 (.tmp 4) (.tmp 11) agg_span rfl rfl rfl rfl (Blk.new _ _ _) rfl rfl (by simp [Value.oneCell']) ?_; intro w5 h5; have c5 := h5.cell; have f5 := h5.free; have z5 := h5.size)
          | (refine wpList_store_blk 39 (.tmp 2) (.tmp 25) agg_span rfl rfl rfl rfl (h5.other (br.alloc _) (by omega)) rfl rfl (by simp [Value.oneCell']) ?_; intro w7 h7; have c7 := h7.cell; have f7 := h7.free; have z7 := h7.size))
        refine ⟨⟨k + 1, by omega, by go_num, ?_, ?_⟩, by simp [intOf]; omega⟩
        · exact h7.below (h5.below (hBr.alloc (by omega) _) (by omega)) (Nat.le_refl _)
        · have := h7.blk
          rw [HJk.out]
          have e1 : min j1 x1 = if x1 < j1 then x1 else j1 := by split <;> omega
          have e2 : max j2 x2 = if j2 < x2 then x2 else j2 := by split <;> omega
          simp only [e1, e2]
          exact this
    · have hlti : ¬ (k : Int) < l.length := by omega
      have e : k = l.length := by omega
      subst e
      rw [← HE.out] at br rr
      have br' := br
      go_wp2_with (first
        | (refine wpList_store_blk 39 (.tmp 2) (.tmp 27) agg_span rfl rfl rfl rfl br rfl rfl (by simp [Value.oneCell']) ?_; intro w6 h6))
      refine bodyPost_ret (v := spv R) (results_cell_blk rfl _ agg_span rfl h6.blk rfl) rfl ⟨rfl, ?_⟩
      rw [HZ0.out]
      exact h6.below hBw (Nat.le_refl _)
end Go.Proofs.Yteeinehpneppnaa
set_option linter.unusedVariables false
set_option linter.unusedSimpArgs false
namespace Go.Proofs.Yteeinehpneppnaa
open Go.RowKit Go.Proofs
attribute [local irreducible] Ord.walk
/-- How long all legs take, as the program has it. -/
def lg (L : List Int) (i : Nat) : Int := L.getD i 0
abbrev legC (L : List Int) : Array Value := #[.int .i64 (lg L 0), .int .i64 (lg L 1), .int .i64 (lg L 2), .int .i64 (lg L 3), .int .i64 (lg L 4)]
abbrev hdC (h : Int × Int × Int × Int) : Array Value := #[.int .i64 h.1, .int .i64 h.2.1, .int .i64 h.2.2.1, .int .i64 h.2.2.2]
theorem legC_get (L : List Int) {i : Nat} (hi : i < 5) : (legC L)[i]? = some (.int .i64 (lg L i)) := by
  rcases (show i = 0 ∨ i = 1 ∨ i = 2 ∨ i = 3 ∨ i = 4 by omega) with rfl | rfl | rfl | rfl | rfl <;> rfl
def daysF (n : Nat) : Value := .func (.func 105) #[] #[.pointer (some ⟨n, 0, none⟩), .pointer (some ⟨n + 1, 0, none⟩), .pointer (some ⟨n + 3, 0, none⟩), .pointer (some ⟨n + 2, 0, none⟩)]
/-- What days lays. -/
structure DaysAt (w : World) (n : Nat) (h : Int × Int × Int × Int) (pa : Option Addr) (np pc : Nat) (L : List Int) (d : Int) : Prop where
  b0 : Blk w n (hdC h) 116
  b1 : Blk w (n + 1) #[.slice pa np pc] 123
  b2 : Blk w (n + 2) (legC L) 90
  b3 : Blk w (n + 3) #[.int .i64 d] 3
theorem m_days (h : Int × Int × Int × Int) (pa : Option Addr) (np pc : Nat) (L : List Int) (d : Int) (w : World) :
    Calls Try.prog 81 #[.agg (hdC h), .slice pa np pc, .agg (legC L), .int .i64 d] w (fun e w' => e = .returned (daysF w.heap.size) ∧ DaysAt w' w.heap.size h pa np pc L d ∧ Below w.heap.size w w' ∧ w'.heap.size = w.heap.size + 4) := by
  unfold daysF
  go_enter Try.func81, Try.ntmps81
  go_wp2
  go_ret
  exact ⟨rfl, ⟨(((Blk.new _ _ _).alloc _).alloc _).alloc _, ((Blk.new' _ _ _ _ (by simp)).alloc _).alloc _, (Blk.new' _ _ _ _ (by simp)).alloc _, Blk.new' _ _ _ _ (by simp)⟩, by (repeat (first | assumption | exact Below.refl _ _ | refine Below.drew ?_ | refine Below.alloc ?_ (by first | omega | (simp; done) | (simp; omega)) _ | refine Below.setCell ?_ (by first | omega | (simp; done) | (simp; omega)) _ | refine Below.trans ?_ (Below.mono (by assumption) (by first | omega | (simp; done) | (simp; omega))))), by simp⟩
/-- The days on which a mob comes to its places, in order. -/
def daysL (m : Mb) (L : List Int) (s : Nat) (d : Int) : List (Nat × Int) := (List.range (m.places.length - s)).map fun k => (s + k, inK m L s d k)
def dayV (p : Nat × Int) : Array Value := #[.int .i64 p.1, .int .i64 p.2]
/-- On which day it goes on, ahead of the leg to a place. -/
def headK (m : Mb) (L : List Int) (s : Nat) (d : Int) : Nat → Int
  | 0 => d
  | k + 1 => onK m L s d k
theorem legOk_tr {m : Mb} (hv : validM m = true) {L : List Int} (hL : L ∈ prodL m.legs) : ∃ D, TrOk m L D := by
  refine ⟨(leavesL m).map (·.1), trOk_of hL ((mem_prodL _ _).2 ⟨by simp, fun i hi => ⟨((leavesL m)[i]).1, by simp [hi], Int.le_refl _, ?_⟩⟩)⟩
  have hi' : i < m.herds.length := by unfold leavesL at hi; simpa using hi
  have := validM_herd hv hi'
  rw [List.getD_eq_getElem?_getD, List.getElem?_eq_getElem hi', Option.getD_some] at this
  simp only [leavesL, List.getElem_map]
  omega
theorem inK_bound {m : Mb} (hv : validM m = true) {L : List Int} (hL : L ∈ prodL m.legs) (s : Nat) {d : Int} (h0 : 0 ≤ d) (h1 : d ≤ 30) (k : Nat) : 0 ≤ inK m L s d k ∧ inK m L s d k ≤ 30 + 8 * (k : Int) := by
  obtain ⟨D, hD⟩ := legOk_tr hv hL
  exact inK_in hv hD s h0 h1 k
theorem leg_bound {m : Mb} (hv : validM m = true) {L : List Int} (hL : L ∈ prodL m.legs) (i : Nat) : 0 ≤ L.getD i 0 ∧ L.getD i 0 ≤ 5 := by
  obtain ⟨D, hD⟩ := legOk_tr hv hL
  exact leg_in hv hD i
theorem daysL_get (m : Mb) (L : List Int) (s : Nat) (d : Int) {k : Nat} (h : k < (daysL m L s d).length) : (daysL m L s d)[k] = (s + k, inK m L s d k) := by
  have : (daysL m L s d)[k]? = some (s + k, inK m L s d k) := by
    have hk : k < m.places.length - s := by unfold daysL at h; simpa using h
    unfold daysL; simp [hk]
  rw [List.getElem?_eq_getElem h] at this
  simpa using this
theorem daysL_len (m : Mb) (L : List Int) (s : Nat) (d : Int) : (daysL m L s d).length = m.places.length - s := by unfold daysL; simp
set_option maxHeartbeats 40000000 in
set_option maxRecDepth 100000 in
theorem days_seq {m : Mb} {L : List Int} (hv : validM m = true) (hL : L ∈ prodL m.legs) (h : Int × Int × Int × Int) (s : Nat) (hs : h.1 = (s : Int)) (hsn : s < m.places.length) (pa : Option Addr) (pc n : Nat) (d : Int) (hd0 : 0 ≤ d) (hd1 : d ≤ 30)
    (l : Nat) (W : World) (hD : DaysAt W n h pa m.places.length pc L d) (hsp : RowsAt W pa 1 (fun p => [spotV p]) m.places) (hpa : ∀ g go, pa = some ⟨g, go, none⟩ → g < n) (XR : Nat → Option Obj → Prop)
    (hX : ∀ k o, XR k o → (k < n ∨ n + 4 ≤ k) ∧ ∀ g go, pa = some ⟨g, go, none⟩ → k ≠ g) :
    SeqAt Try.prog 105 #[.pointer (some ⟨n, 0, none⟩), .pointer (some ⟨n + 1, 0, none⟩), .pointer (some ⟨n + 3, 0, none⟩), .pointer (some ⟨n + 2, 0, none⟩)] dayV (daysL m L s d) (fun k _ => k = n + 3) XR (fun _ => True) l W := by
  intro J Jx hJ hJx hY h0
  have hlen := validM_len hv
  have HI := Lib.hid (fun k => inK_bound hv hL s hd0 hd1 k)
  have HS := Lib.hid (fun k => stay_in hv s k)
  have HG := Lib.hid (fun i => leg_bound hv hL i)
  have HR := Lib.hid (fun p => validM_rest hv p)
  have HY : Hid (∀ k (hk : s + k < m.places.length) W1, J k W1 → YieldAt Fence.wide 0 Try.prog l (dayV (s + k, inK m L s d k)) W1 fun e W' => Lets XR W1 W' ∧ ((e = .returned (.bool true) ∧ J (k + 1) W') ∨ (e = .returned (.bool false) ∧ Jx W'))) := by
    intro k hk W1 hj
    have hk' : k < (daysL m L s d).length := by rw [daysL_len]; omega
    have := hY k hk' W1 hj trivial
    rw [daysL_get] at this
    obtain ⟨fn, tmps, asg, bo, e, r⟩ := this
    exact ⟨fn, tmps, asg, bo, e, r.mono fun e w' h => ⟨h.1, h.2.2⟩⟩
  clear hY
  have HJ := Lib.hid hJ
  have HJx := Lib.hid hJx
  have HXR := Lib.hid hX
  have HFin : Hid ((daysL m L s d).length = m.places.length - s) := daysL_len m L s d
  have HK : Hid (∀ wr, Lets (fun k o => k = n + 3 ∨ XR k o) W wr → Blk wr n (hdC h) 116 ∧ Blk wr (n + 1) #[.slice pa m.places.length pc] 123 ∧ Blk wr (n + 2) (legC L) 90 ∧ RowsAt wr pa 1 (fun p => [spotV p]) m.places) := by
    intro wr hl
    have hn : ∀ k, n ≤ k → k < n + 3 → ¬ (k = n + 3 ∨ XR k W.heap[k]?) := fun k h1 h2 e => by
      rcases e with e | e
      · omega
      · have := (hX k _ e).1; omega
    refine ⟨hl.blk hD.b0 (hn _ (by omega) (by omega)), hl.blk hD.b1 (hn _ (by omega) (by omega)), hl.blk hD.b2 (hn _ (by omega) (by omega)), fun i hi => ?_⟩
    obtain ⟨gb, go, h0, h1⟩ := hsp i hi
    have hg := hpa gb go h0
    refine ⟨gb, go, h0, fun j u hj => hl.cell (h1 j u hj) ?_⟩
    rintro (e | e)
    · simp only at e; omega
    · exact (hX _ _ e).2 gb go h0 rfl
  have HN : Hid (∀ o, ¬ XR (n + 3) o) := fun o e => by have := (hX _ _ e).1; omega
  clear hX hsp hpa
  rcases h with ⟨h1, h2, h3, h4⟩
  simp only at hs
  subst hs
  have HE : Hid (∀ k, 0 < k → headK m L s d k + L.getD (s + k - 1) 0 = inK m L s d k) := by
    intro k hk
    obtain ⟨j, rfl⟩ : ∃ j, k = j + 1 := ⟨k - 1, by omega⟩
    simp only [headK, onK, inK]
    rw [show s + (j + 1) - 1 = s + j by omega]
  have HO : Hid (∀ k, headK m L s d (k + 1) = inK m L s d k + stayK m s k) := fun _ => rfl
  have hni : (m.places.length : Int) ≤ 6 := by omega
  refine callsIn_of_wp Try.func105 rfl trivial ?_ rfl
  simp only [Try.ntmps105, List.size_toArray, List.length_cons, List.length_nil, Nat.reduceAdd, Nat.reduceSub, Array.replicate_succ, Array.replicate_zero, List.push_toArray, List.append_toArray, List.nil_append, List.cons_append]
  have r0 := hD.b0.cell
  have b3 := hD.b3
  clear hD
  gi_wp2_with fail
  gi_loopw [6] (fun i wr => ∃ k p : Nat, s + k = p ∧ p ≤ m.places.length ∧ i = .int .i64 (p : Int) ∧ Lets (fun k o => k = n + 3 ∨ XR k o) W wr ∧ Blk wr (n + 3) #[.int .i64 (headK m L s d k)] 3 ∧ Hid (J k wr)) (fun i _ => m.places.length - (intOf i).toNat)
  case atStart => exact ⟨0, s, by omega, by omega, rfl, Lets.refl _ _, b3, h0⟩
  case round =>
    clear b3 r0 h0 hJ hJx
    obtain ⟨k, p, hp, hpn, rfl, hLt, bd, hj⟩ := hrel
    obtain ⟨k0, k1, k2, hsp⟩ := HK.out wr hLt
    have r0 := k0.cell
    have r1 := k1.cell
    have r2 := k2.cell
    have r3 := bd.cell
    have f3 := bd.free
    have lt3 := bd.lt
    by_cases hlt : p < m.places.length
    · have hlti : (p : Int) < m.places.length := by omega
      have hi := HI.out k
      by_cases h0 : k = 0
      · subst h0
        have hps : ¬ (s : Int) < (p : Int) := by omega
        obtain ⟨fn, tmps, asg, bo, hy, hR⟩ := HY.out 0 (by omega) wr hj.out
        rw [show s + 0 = p from hp] at hy
        have hdd : dayV (p, inK m L s d 0) = #[.int .i64 (p : Int), .int .i64 d] := rfl
        rw [hdd] at hy
        have hh : headK m L s d 0 = d := rfl
        rw [hh] at bd r3
        gi_wp2_with fail
        refine ⟨rfl, hR.mono ?_⟩
        clear hy
        rintro e W3 ⟨hL3, ⟨rfl, hj3⟩ | ⟨rfl, hjx⟩⟩
        · have hLt3 := hLt.trans (hL3.mono (fun _ _ e => .inr e))
          have bd3 := hL3.blk bd (HN.out _)
          obtain ⟨q0, q1, q2, hsq⟩ := HK.out W3 hLt3
          have s0 := q0.cell
          gi_wp2_with fail
          exact ⟨⟨1, p + 1, by omega, by omega, by go_num, hLt3, by rw [HO.out]; simpa [stayK, inK] using bd3, hj3⟩, by simp [intOf]; omega⟩
        · gi_wp2_with fail
          refine bodyPost_ret (results_none rfl _ _ _) rfl ?_
          exact ⟨⟨_, rfl⟩, trivial, .inr hjx⟩
      · have hps : (s : Int) < (p : Int) := by omega
        have hk0 : 0 < k := by omega
        obtain ⟨q, hq⟩ : ∃ q, p = q + 1 := ⟨p - 1, by omega⟩
        have hE := HE.out k hk0
        rw [show s + k - 1 = q by omega] at hE
        have hlq : (legC L)[q]? = some (.int .i64 (lg L q)) := legC_get L (by omega)
        have hq5 : (q : Int) < 5 := by omega
        have hgq := HG.out q
        have hpq : (p : Int) - 1 = (q : Int) := by omega
        have hwq : IntKind.i64.wrap (q : Int) = (q : Int) := Lib.wrap_i64_small _ (by omega)
        have hq0 : ¬ (q : Int) < 0 := by omega
        have hk6 : (k : Int) ≤ 6 := by omega
        have e2 := (r2 q).trans hlq
        generalize headK m L s d k = hd0 at *
        obtain ⟨x, hx⟩ : ∃ x, inK m L s d k = x := ⟨_, rfl⟩
        rw [hx] at hi hE
        change hd0 + lg L q = _ at hE
        change 0 ≤ lg L q ∧ lg L q ≤ 5 at hgq
        generalize lg L q = g at *
        have HX := Lib.hid hx
        have HQ := Lib.hid hq
        clear hx hq hlq r2
        gi_wp2_with fail
        refine wpIn_wide.2 ?_
        refine Ord.wp_region [(0, 0), (1, 0), (2, 0), (3, 0), (4, 0), (5, 0), (6, 2)] (fun _ => True) (by kernel_rfl) (by kernel_rfl) (fun c a d v w h => by cases d <;> exact h) trivial ?_
        go_wp2_with (first
          | ((with_reducible refine Ord.at_calm ?_); refine Ord.calm_skip rfl ?_ (fun K hK => ?_); (focus (simp [Region.wanted, yielded]; done))) | with_reducible refine Ord.walk_calm rfl rfl (fun K hK => ?_) | ((with_reducible refine Ord.at_wild ?_); refine Ord.wild_fieldAddr rfl rfl (fun W => by simp [go_sem]; rfl) (fun K hK => ?_)) | ((with_reducible refine Ord.at_wild ?_); refine Ord.wild_move rfl rfl (fun K hK => ?_)) | ((with_reducible refine Ord.at_wild ?_); refine Ord.wild_nilCheck rfl rfl (fun K hK => ?_)) | with_reducible refine Ord.walk_eff rfl (by first | (simp; done) | assumption | (go_simp; done) | (repeat (first | assumption | exact Below.refl _ _ | refine Below.drew ?_ | refine Below.alloc ?_ (by first | omega | (simp; done) | (simp; omega)) _ | refine Below.setCell ?_ (by first | omega | (simp; done) | (simp; omega)) _ | refine Below.trans ?_ (Below.mono (by assumption) (by first | omega | (simp; done) | (simp; omega)))))) (fun K hK => ?_) | with_reducible refine Ord.at_fork ?_ ?_ | with_reducible refine Ord.walk_nil ?_ | (with_reducible refine Ord.next_of (by first | (simp; done) | (go_simp; done) | (repeat (first | assumption | exact Below.refl _ _ | refine Below.drew ?_ | refine Below.alloc ?_ (by first | omega | (simp; done) | (simp; omega)) _ | refine Below.setCell ?_ (by first | omega | (simp; done) | (simp; omega)) _ | refine Below.trans ?_ (Below.mono (by assumption) (by first | omega | (simp; done) | (simp; omega)))))) (fun _ => ?_)))
        obtain ⟨w2, hw2⟩ : ∃ w2, (wr.setCell ⟨n + 3, 0, none⟩ (.int .i64 x)).drew = w2 := ⟨_, rfl⟩
        rw [hw2]
        have hl2 : Lets (fun k _ => k = n + 3) wr w2 := by rw [← hw2]; exact ((Lets.refl _ _).setCell rfl _).drew
        have bd2 : Blk w2 (n + 3) #[.int .i64 x] 3 := by rw [← hw2]; exact (bd.set 0 _).drew
        clear hw2 r0 r1 r3 f3 lt3 bd k0 k1 k2 hsp e2
        have hj2 := HJ.out k wr w2 hj.out hl2
        have hLt2 := hLt.trans (hl2.mono (fun _ _ e => .inl e))
        obtain ⟨k0, k1, k2, hsp⟩ := HK.out w2 hLt2
        have r0 := k0.cell
        have r1 := k1.cell
        have r3 := bd2.cell
        obtain ⟨fn, tmps, asg, bo, hy, hR⟩ := HY.out k (by omega) w2 hj2
        rw [show s + k = p from hp, HX.out] at hy
        have hdd : dayV (p, x) = #[.int .i64 (p : Int), .int .i64 x] := rfl
        rw [hdd] at hy
        gi_wp2_with fail
        refine ⟨rfl, hR.mono ?_⟩
        clear hy hR hj hj2 hLt r0 r1 r3
        rintro e W3 ⟨hL3, ⟨rfl, hj3⟩ | ⟨rfl, hjx⟩⟩
        · have hLt3 := hLt2.trans (hL3.mono (fun _ _ e => .inr e))
          have bd3 := hL3.blk bd2 (HN.out _)
          obtain ⟨q0, q1, q2, hsq⟩ := HK.out W3 hLt3
          have r0 := q0.cell
          have r1 := q1.cell
          have r3 := bd3.cell
          have f3 := bd3.free
          have lt3 := bd3.lt
          have hst := HO.out k
          have hrp := HR.out p
          obtain ⟨gb, go, rfl, e1⟩ := hsq p hlt
          have e1 := e1 0 _ rfl
          rw [Nat.mul_one, Nat.add_zero] at e1
          have hwr : stayK m s k = if (m.places[p]).1 = true then (m.places[p]).2 else 0 := by
            unfold stayK waterB restI
            rw [show s + k = p from hp, List.getElem?_eq_getElem hlt]
            simp [hk0]
          have hre : restI m p = (m.places[p]).2 := by unfold restI; rw [List.getElem?_eq_getElem hlt]; rfl
          rw [hre] at hrp
          rw [hwr, HX.out] at hst
          have HST := Lib.hid hst
          clear hst hwr hre hsq
          generalize m.places[p] = pl at *
          obtain ⟨wt, rs⟩ := pl
          simp only at *
          gi_wp2_with fail
          cases wt
          · have e2 : W3.cell? ⟨gb, go + p, none⟩ = some (.iface 136 (.agg #[])) := e1
            clear e1
            have hm : ∀ w, (method 275 136 (.agg #[]) "shearworks/mob.on").run Try.prog w = .ok (132, .agg #[]) w := fun _ => by kernel_rfl
            refine wpIn_wide.2 ?_
            refine Ord.wp_region [(0, 0), (1, 0), (2, 0), (3, 0), (4, 0), (5, 2), (6, 2)] (fun _ => True) (by kernel_rfl) (by kernel_rfl) (fun c a d v w h => by cases d <;> exact h) trivial ?_
            go_wp2_with (first
              | (go_at_call 132; refine (m_bare_on _ _).mono ?_; rintro e w5 ⟨rfl, hb5⟩; obtain ⟨c5, g5, z5⟩ := after hb5 rfl)
              | ((with_reducible refine Ord.at_calm ?_); refine Ord.calm_skip rfl ?_ (fun K hK => ?_); (focus (simp [Region.wanted, yielded]; done))) | with_reducible refine Ord.walk_calm rfl rfl (fun K hK => ?_) | ((with_reducible refine Ord.at_wild ?_); refine Ord.wild_fieldAddr rfl rfl (fun W => by simp [go_sem]; rfl) (fun K hK => ?_)) | ((with_reducible refine Ord.at_wild ?_); refine Ord.wild_move rfl rfl (fun K hK => ?_)) | ((with_reducible refine Ord.at_wild ?_); refine Ord.wild_nilCheck rfl rfl (fun K hK => ?_)) | with_reducible refine Ord.walk_eff rfl (by first | (simp; done) | assumption | (go_simp; done) | (repeat (first | assumption | exact Below.refl _ _ | refine Below.drew ?_ | refine Below.alloc ?_ (by first | omega | (simp; done) | (simp; omega)) _ | refine Below.setCell ?_ (by first | omega | (simp; done) | (simp; omega)) _ | refine Below.trans ?_ (Below.mono (by assumption) (by first | omega | (simp; done) | (simp; omega)))))) (fun K hK => ?_) | with_reducible refine Ord.at_fork ?_ ?_ | with_reducible refine Ord.walk_nil ?_ | (with_reducible refine Ord.next_of (by first | (simp; done) | (go_simp; done) | (repeat (first | assumption | exact Below.refl _ _ | refine Below.drew ?_ | refine Below.alloc ?_ (by first | omega | (simp; done) | (simp; omega)) _ | refine Below.setCell ?_ (by first | omega | (simp; done) | (simp; omega)) _ | refine Below.trans ?_ (Below.mono (by assumption) (by first | omega | (simp; done) | (simp; omega)))))) (fun _ => ?_)))
            have hl5 : Lets (fun k _ => k = n + 3) W3 w5 := (Lets.of_below hb5.undrew)
            obtain ⟨w6, hw6⟩ : ∃ w6, (w5.setCell ⟨n + 3, 0, none⟩ (.int .i64 x)) = w6 := ⟨_, rfl⟩
            rw [hw6]
            have hl6 : Lets (fun k _ => k = n + 3) W3 w6 := by rw [← hw6]; exact hl5.setCell rfl _
            have bd6 : Blk w6 (n + 3) #[.int .i64 x] 3 := by rw [← hw6]; exact (bd3.below hb5.undrew lt3).set 0 _
            have hj6 := HJ.out (k + 1) W3 w6 hj3 hl6
            have hLt6 := hLt3.trans (hl6.mono (fun _ _ e => .inl e))
            clear hw6 c5 g5 z5 r0 r1 r3 f3
            gi_wp2_with fail
            exact ⟨⟨k + 1, p + 1, by omega, by omega, by go_num, hLt6, by rw [HST.out]; simpa using bd6, hj6⟩, by simp [intOf]; omega⟩
          · have e2 : W3.cell? ⟨gb, go + p, none⟩ = some (.iface 140 (.agg #[.int .i64 rs])) := e1
            clear e1
            have hm : ∀ w, (method 275 140 (.agg #[.int .i64 rs]) "shearworks/mob.on").run Try.prog w = .ok (134, .agg #[.int .i64 rs]) w := fun _ => by kernel_rfl
            refine wpIn_wide.2 ?_
            refine Ord.wp_region [(0, 0), (1, 0), (2, 0), (3, 0), (4, 0), (5, 2), (6, 2)] (fun _ => True) (by kernel_rfl) (by kernel_rfl) (fun c a d v w h => by cases d <;> exact h) trivial ?_
            go_wp2_with (first
              | (go_at_call 134; refine (m_pool_on _ _ (by omega) (by omega) _).mono ?_; rintro e w5 ⟨rfl, hb5⟩; obtain ⟨c5, g5, z5⟩ := after hb5 rfl)
              | ((with_reducible refine Ord.at_calm ?_); refine Ord.calm_skip rfl ?_ (fun K hK => ?_); (focus (simp [Region.wanted, yielded]; done))) | with_reducible refine Ord.walk_calm rfl rfl (fun K hK => ?_) | ((with_reducible refine Ord.at_wild ?_); refine Ord.wild_fieldAddr rfl rfl (fun W => by simp [go_sem]; rfl) (fun K hK => ?_)) | ((with_reducible refine Ord.at_wild ?_); refine Ord.wild_move rfl rfl (fun K hK => ?_)) | ((with_reducible refine Ord.at_wild ?_); refine Ord.wild_nilCheck rfl rfl (fun K hK => ?_)) | with_reducible refine Ord.walk_eff rfl (by first | (simp; done) | assumption | (go_simp; done) | (repeat (first | assumption | exact Below.refl _ _ | refine Below.drew ?_ | refine Below.alloc ?_ (by first | omega | (simp; done) | (simp; omega)) _ | refine Below.setCell ?_ (by first | omega | (simp; done) | (simp; omega)) _ | refine Below.trans ?_ (Below.mono (by assumption) (by first | omega | (simp; done) | (simp; omega)))))) (fun K hK => ?_) | with_reducible refine Ord.at_fork ?_ ?_ | with_reducible refine Ord.walk_nil ?_ | (with_reducible refine Ord.next_of (by first | (simp; done) | (go_simp; done) | (repeat (first | assumption | exact Below.refl _ _ | refine Below.drew ?_ | refine Below.alloc ?_ (by first | omega | (simp; done) | (simp; omega)) _ | refine Below.setCell ?_ (by first | omega | (simp; done) | (simp; omega)) _ | refine Below.trans ?_ (Below.mono (by assumption) (by first | omega | (simp; done) | (simp; omega)))))) (fun _ => ?_)))
            have hl5 : Lets (fun k _ => k = n + 3) W3 w5 := (Lets.of_below hb5.undrew)
            obtain ⟨w6, hw6⟩ : ∃ w6, (w5.setCell ⟨n + 3, 0, none⟩ (.int .i64 (x + rs))) = w6 := ⟨_, rfl⟩
            rw [hw6]
            have hl6 : Lets (fun k _ => k = n + 3) W3 w6 := by rw [← hw6]; exact hl5.setCell rfl _
            have bd6 : Blk w6 (n + 3) #[.int .i64 (x + rs)] 3 := by rw [← hw6]; exact (bd3.below hb5.undrew lt3).set 0 _
            have hj6 := HJ.out (k + 1) W3 w6 hj3 hl6
            have hLt6 := hLt3.trans (hl6.mono (fun _ _ e => .inl e))
            clear hw6 c5 g5 z5 r0 r1 r3 f3
            gi_wp2_with fail
            exact ⟨⟨k + 1, p + 1, by omega, by omega, by go_num, hLt6, by rw [HST.out]; simpa using bd6, hj6⟩, by simp [intOf]; omega⟩
        · gi_wp2_with fail
          refine bodyPost_ret (results_none rfl _ _ _) rfl ?_
          exact ⟨⟨_, rfl⟩, trivial, .inr hjx⟩
    · have hlti : ¬ (p : Int) < (m.places.length : Int) := by omega
      have e : p = m.places.length := by omega
      gi_wp2_with fail
      go_end0
      refine ⟨⟨_, rfl⟩, .inl ?_⟩
      rw [HFin.out, ← e, ← hp]
      simpa using hj.out
end Go.Proofs.Yteeinehpneppnaa
