/- Parts of a proof: Dup, ZaA, ZaB, ZaC, MbL, ZaD, ZaE. -/
import Derived.Test.YteeinehpneppnaaGreatMoB
import Derived.Test.YteeinehpneppnaaGreatMbJ
import Derived.Test.YteeinehpneppnaaGreatMbK
import Derived.Test.YteeinehpneppnaaGreatMoD
/- A number as a span. -/
set_option linter.unusedVariables false
set_option linter.unusedSimpArgs false
namespace Go.Proofs.YteeinehpneppnaaGreat
open Go.RowKit Go.Proofs
attribute [local irreducible] Ord.walk
/-- A number as a span. -/
def dup (x : Int) : Int × Int := (x, x)
end Go.Proofs.YteeinehpneppnaaGreat
/- shearworksref01: hull, Now. -/
set_option linter.unusedVariables false
set_option linter.unusedSimpArgs false
namespace Go.Proofs.YteeinehpneppnaaGreat
open Go.RowKit Go.Proofs
attribute [local irreducible] Ord.walk
/-- The span of some numbers, behind some rounds. -/
def hullTo (l : List Int) : Nat → Int × Int
  | 0 => dup (l.getD 0 0)
  | k + 1 => (min (hullTo l k).1 (l.getD k 0), max (hullTo l k).2 (l.getD k 0))
theorem hullTo_eq (l : List Int) (hl : l ≠ []) : ∀ k, k < l.length → hullTo l (k + 1) = joinTo (l.map dup) (k + 1)
  | 0, h => by
    have e : (l.map dup).getD 0 (0, 0) = dup (l.getD 0 0) := by
      rw [List.getD_eq_getElem?_getD, List.getElem?_map, List.getD_eq_getElem?_getD, List.getElem?_eq_getElem h]; rfl
    show (min (dup (l.getD 0 0)).1 (l.getD 0 0), max (dup (l.getD 0 0)).2 (l.getD 0 0)) = (let x := (l.map dup).getD 0 (0, 0); if 0 = 0 then x else (min (joinTo (l.map dup) 0).1 x.1, max (joinTo (l.map dup) 0).2 x.2))
    simp only [if_pos]
    rw [e]
    unfold dup
    simp
  | k + 1, h => by
    have ih := hullTo_eq l hl k (by omega)
    have e : (l.map dup).getD (k + 1) (0, 0) = dup (l.getD (k + 1) 0) := by
      rw [List.getD_eq_getElem?_getD, List.getElem?_map, List.getD_eq_getElem?_getD, List.getElem?_eq_getElem h]; rfl
    show (min (hullTo l (k + 1)).1 (l.getD (k + 1) 0), max (hullTo l (k + 1)).2 (l.getD (k + 1) 0)) = (let x := (l.map dup).getD (k + 1) (0, 0); if k + 1 = 0 then x else (min (joinTo (l.map dup) (k + 1)).1 x.1, max (joinTo (l.map dup) (k + 1)).2 x.2))
    simp only
    rw [if_neg (by omega), e, ih]
    rfl
theorem hull_eq (l : List Int) (hl : l ≠ []) : hullTo l l.length = joinL (l.map dup) := by
  obtain ⟨k, hk⟩ : ∃ k, l.length = k + 1 := ⟨l.length - 1, by have := List.length_pos_iff.2 hl; omega⟩
  unfold joinL
  rw [List.length_map, hk, hullTo_eq l hl k (by omega)]
theorem blkZ {w W : World} {C : Array Value} {t : TypeId} (h : w.alloc (.cells C t) = W) : Blk W w.heap.size C t := h ▸ Blk.new _ _ _
theorem belowZ {w W : World} {o : Obj} (h : w.alloc o = W) : Below w.heap.size w W := h ▸ (Below.refl _ _).alloc (Nat.le_refl _) _
theorem max2_runZ (a b : Int) (W : World) : (Builtin.max2 (.int .i64 a) (.int .i64 b)).run Tryz.prog W = .ok (.int .i64 (max a b)) W := by
  by_cases h : b > a
  · have : max a b = b := by omega
    simp [Builtin.max2, go_sem, h, this]
  · have : max a b = a := by omega
    simp [Builtin.max2, go_sem, h, this]
theorem min2_runZ (a b : Int) (W : World) : (Builtin.min2 (.int .i64 a) (.int .i64 b)).run Tryz.prog W = .ok (.int .i64 (min a b)) W := by
  by_cases h : b < a
  · have : min a b = b := by omega
    simp [Builtin.min2, go_sem, h, this]
  · have : min a b = a := by omega
    simp [Builtin.min2, go_sem, h, this]
set_option maxHeartbeats 40000000 in
set_option maxRecDepth 100000 in
theorem r_hull (l : List Int) (hne : l ≠ []) (hll : l.length ≤ 1000000) (a : Option Addr) (c : Nat) (w : World) (hr : IntsM w a l) :
    Calls Tryz.prog 37 #[.slice a l.length c] w (Gives (spv (joinL (l.map dup))) w) := by
  rw [← hull_eq l hne]
  have hpos := List.length_pos_iff.2 hne
  have hposi : (0 : Int) < (l.length : Int) := by omega
  obtain ⟨gb, go, rfl, e0⟩ := hr.get1 hpos
  have hg0 : l.getD 0 0 = l[0] := by rw [List.getD_eq_getElem?_getD, List.getElem?_eq_getElem hpos]; rfl
  have H0 : Hid (hullTo l 0 = (l[0], l[0])) := by show dup (l.getD 0 0) = _; rw [hg0]; rfl
  have HS : Hid (∀ k, (h : k < l.length) → hullTo l (k + 1) = (min (hullTo l k).1 l[k], max (hullTo l k).2 l[k])) := fun k h => by
    show (min (hullTo l k).1 (l.getD k 0), max (hullTo l k).2 (l.getD k 0)) = _
    rw [show l.getD k 0 = l[k] by rw [List.getD_eq_getElem?_getD, List.getElem?_eq_getElem h]; rfl]
  obtain ⟨R, hR⟩ : ∃ R, hullTo l l.length = R := ⟨_, rfl⟩
  rw [hR]
  have HR := Lib.hid hR
  have HG := Lib.hid (fun k (h : k < l.length) => hr.get1 h)
  clear hR hr hg0
  have hgb := World.block_lt_of_cell? w _ e0
  simp only at hgb
  obtain ⟨x0, hx0⟩ : ∃ x0, l[0] = x0 := ⟨_, rfl⟩
  rw [hx0] at e0 H0
  clear hx0
  rw [Nat.add_zero] at e0
  go_enter Tryz.func37, Tryz.ntmps37
  go_wp2_with fail
  obtain ⟨W1, hW1⟩ : ∃ W1, w.alloc (.cells #[.int .i64 0, .int .i64 0] 31) = W1 := ⟨_, rfl⟩
  have hB1 : Below w.heap.size w W1 := by rw [← hW1]; (repeat (first | assumption | exact Below.refl _ _ | refine Below.drew ?_ | refine Below.alloc ?_ (by first | omega | (simp; done) | (simp; omega)) _ | refine Below.setCell ?_ (by first | omega | (simp; done) | (simp; omega)) _ | refine Below.trans ?_ (Below.mono (by assumption) (by first | omega | (simp; done) | (simp; omega)))))
  have b1 : Blk W1 w.heap.size #[.int .i64 0, .int .i64 0] 31 := by rw [← hW1]; exact Blk.new _ _ _
  have i0 := (hB1.cell (p := ⟨gb, go, none⟩) hgb).trans e0
  have hgb1 : gb < W1.heap.size := by have := hB1.size; omega
  (try rw [hW1])
  refine Ord.wp_region [(0, 1), (1, 1), (2, 1), (3, 1), (4, 1), (5, 1), (6, 1), (7, 2), (8, 2)] (fun W' => Below W1.heap.size W1 W') (by kernel_rfl) (by kernel_rfl) (fun c a d v w h => by cases d <;> exact h) (Below.refl _ _).drew ?_
  go_wp2_with (first
    | ((with_reducible refine Ord.at_wild ?_); refine Ord.wild_idx (.pointer (some ⟨gb, go, none⟩)) rfl ?_ ?_; (focus (intro W hW; simp [go_sem, hposi, hpos]; done)); intro K hK)
    | ((with_reducible refine Ord.at_wild ?_); refine Ord.wild_load (ad := ⟨gb, go, none⟩) (.int .i64 x0) rfl rfl ?_ ?_; (focus (intro W hW; have y := (hW.cell (p := ⟨gb, go, none⟩) hgb1).trans i0; simp [go_sem, y]; done)); intro K hK)
    | ((with_reducible refine Ord.at_wild ?_); refine Ord.wild_build (.agg #[.int .i64 x0, .int .i64 x0]) rfl ?_ ?_; (focus (intro W hW; simp [go_sem]; done)); intro K hK)
    | ((with_reducible refine Ord.at_calm ?_); refine Ord.calm_skip rfl ?_ (fun K hK => ?_); (focus (simp [Region.wanted, yielded]; done))) | with_reducible refine Ord.walk_calm rfl rfl (fun K hK => ?_) | ((with_reducible refine Ord.at_wild ?_); refine Ord.wild_fieldAddr rfl rfl (fun W => by simp [go_sem]; rfl) (fun K hK => ?_)) | ((with_reducible refine Ord.at_wild ?_); refine Ord.wild_move rfl rfl (fun K hK => ?_)) | ((with_reducible refine Ord.at_wild ?_); refine Ord.wild_nilCheck rfl rfl (fun K hK => ?_)) | with_reducible refine Ord.walk_eff rfl (by first | (simp; done) | assumption | (go_simp; done) | (repeat (first | assumption | exact Below.refl _ _ | refine Below.drew ?_ | refine Below.alloc ?_ (by first | omega | (simp; done) | (simp; omega)) _ | refine Below.setCell ?_ (by first | omega | (simp; done) | (simp; omega)) _ | refine Below.trans ?_ (Below.mono (by assumption) (by first | omega | (simp; done) | (simp; omega)))))) (fun K hK => ?_) | with_reducible refine Ord.at_fork ?_ ?_ | with_reducible refine Ord.walk_nil ?_ | (with_reducible refine Ord.next_of (by first | (simp; done) | (go_simp; done) | (repeat (first | assumption | exact Below.refl _ _ | refine Below.drew ?_ | refine Below.alloc ?_ (by first | omega | (simp; done) | (simp; omega)) _ | refine Below.setCell ?_ (by first | omega | (simp; done) | (simp; omega)) _ | refine Below.trans ?_ (Below.mono (by assumption) (by first | omega | (simp; done) | (simp; omega)))))) (fun _ => ?_)))
  generalize hW2 : World.alloc _ _ = W2
  have b3 := blkZ hW2
  have hB2 := belowZ hW2
  (try simp only [World.size_drew] at b3 hB2)
  have hB2' : Below W1.heap.size W1 W2 := by first | exact hB2 | exact (Below.refl _ W1).drew.trans hB2
  have b12 : Blk W2 w.heap.size #[.int .i64 0, .int .i64 0] 31 := b1.below hB2' b1.lt
  have hBw : Below w.heap.size w W2 := hB1.trans (hB2'.mono hB1.size)
  have l1 := b1.lt
  clear hW2 hB2 hB2' b1 i0 hB1
  generalize W1.heap.size = q at *
  have hl1i : (l.length : Int) ≤ 1000000 := by omega
  go_loopw [4] (fun iv wr => ∃ k : Nat, k ≤ l.length ∧ iv = .int .i64 (k : Int) ∧ Below q W2 wr ∧ Blk wr q #[.int .i64 (hullTo l k).1, .int .i64 (hullTo l k).2] 31) (fun iv _ => l.length - (intOf iv).toNat)
  case atStart => exact ⟨0, Nat.zero_le _, rfl, (Below.refl _ _).drew, by rw [H0.out]; exact b3.drew⟩
  case round =>
    obtain ⟨k, hk, rfl, hBr, br⟩ := hrel
    have hBx := hBw.trans (hBr.mono (by omega))
    have lq := br.lt
    have hsr := hBr.size
    by_cases hlt : k < l.length
    · have hlti : (k : Int) < (l.length : Int) := by omega
      obtain ⟨gb', go', e9, e1⟩ := HG.out k hlt
      cases e9
      have i1 := (hBx.cell (p := ⟨gb, go + k, none⟩) hgb).trans e1
      have HSk := Lib.hid (HS.out k hlt)
      have brd := br.drew
      clear e1 b3
      generalize l[k] = x at *
      obtain ⟨hn, hhn⟩ : ∃ hn, hullTo l (k + 1) = hn := ⟨_, rfl⟩
      rw [hhn] at HSk
      have HHN := Lib.hid hhn
      clear hhn
      generalize hullTo l k = hk' at *
      obtain ⟨a1, a2⟩ := hk'
      simp only at *
      have rr := br.cell
      go_wp2_with fail
      refine Ord.wp_region [(0, 0), (1, 0), (2, 0), (3, 0), (4, 0), (5, 0), (6, 0), (7, 0), (8, 0), (9, 0), (10, 0), (11, 0), (12, 0), (13, 0), (14, 0), (15, 2)] (fun _ => True) (by kernel_rfl) (by kernel_rfl) (fun c a d v w h => by cases d <;> exact h) trivial ?_
      go_wp2_with (first
        | (refine wpList_store_blk 31 (.tmp 3) (.tmp 32) agg_span rfl rfl rfl rfl brd rfl rfl (by simp [Value.oneCell']) ?_; intro w8 h8)
        | ((with_reducible refine Ord.at_calm ?_); refine Ord.calm_skip rfl ?_ (fun K hK => ?_); (focus (simp [Region.wanted, yielded]; done))) | with_reducible refine Ord.walk_calm rfl rfl (fun K hK => ?_) | ((with_reducible refine Ord.at_wild ?_); refine Ord.wild_fieldAddr rfl rfl (fun W => by simp [go_sem]; rfl) (fun K hK => ?_)) | ((with_reducible refine Ord.at_wild ?_); refine Ord.wild_move rfl rfl (fun K hK => ?_)) | ((with_reducible refine Ord.at_wild ?_); refine Ord.wild_nilCheck rfl rfl (fun K hK => ?_)) | with_reducible refine Ord.walk_eff rfl (by first | (simp; done) | assumption | (go_simp; done) | (repeat (first | assumption | exact Below.refl _ _ | refine Below.drew ?_ | refine Below.alloc ?_ (by first | omega | (simp; done) | (simp; omega)) _ | refine Below.setCell ?_ (by first | omega | (simp; done) | (simp; omega)) _ | refine Below.trans ?_ (Below.mono (by assumption) (by first | omega | (simp; done) | (simp; omega)))))) (fun K hK => ?_) | with_reducible refine Ord.at_fork ?_ ?_ | with_reducible refine Ord.walk_nil ?_ | (with_reducible refine Ord.next_of (by first | (simp; done) | (go_simp; done) | (repeat (first | assumption | exact Below.refl _ _ | refine Below.drew ?_ | refine Below.alloc ?_ (by first | omega | (simp; done) | (simp; omega)) _ | refine Below.setCell ?_ (by first | omega | (simp; done) | (simp; omega)) _ | refine Below.trans ?_ (Below.mono (by assumption) (by first | omega | (simp; done) | (simp; omega)))))) (fun _ => ?_)))
      all_goals
        refine ⟨⟨k + 1, by omega, by first | rfl | omega | simp, h8.below (hBr.drew) (by omega), ?_⟩, by simp [intOf]; omega⟩
        rw [HHN.out, HSk.out]
        have m1 : (if x < a1 then x else a1) = min a1 x := by split <;> omega
        have m2 : (if a2 < x then x else a2) = max a2 x := by split <;> omega
        have hb := h8.blk
        rw [m1, m2] at hb
        exact hb
    · have hlti : ¬ (k : Int) < (l.length : Int) := by omega
      obtain rfl : k = l.length := by omega
      rw [HR.out] at br
      clear HS HR HG
      go_wp2_with (first
        | (refine wpList_load_blk 31 (.tmp 3) agg_span rfl rfl rfl br rfl ?_)
        | (refine wpList_store_blk 31 (.tmp 2) (.tmp 33) agg_span rfl rfl rfl rfl (b12.below hBr l1) rfl rfl (by simp [Value.oneCell']) ?_; intro w8 h8))
      (try simp only [Exit.inBlock, Exit.then])
      refine bodyPost_ret (v := spv R) (results_cell_blk rfl _ agg_span rfl h8.blk rfl) rfl ⟨rfl, h8.below hBx (Nat.le_refl _)⟩
end Go.Proofs.YteeinehpneppnaaGreat
/- shearworksref01: Now. -/

set_option linter.unusedVariables false
set_option linter.unusedSimpArgs false
namespace Go.Proofs.YteeinehpneppnaaGreat
open Go.RowKit Go.Proofs
attribute [local irreducible] Ord.walk
/-- The place of a mob on a day, by the first places. -/
def nowTo' (m : Mb) (L : List Int) (s : Nat) (d day : Int) : Nat → Nat
  | 0 => s
  | k + 1 => if inK m L s d k ≤ day then s + k else nowTo' m L s d day k
set_option maxHeartbeats 40000000 in
set_option maxRecDepth 100000 in
theorem r_Now {m : Mb} {A : Ma} {L D : List Int} {la : Option Addr} {lc : Nat} {da : Option Addr} {dc : Nat} {h : Nat} (d : Int) (w : World) (hv : validM m = true) (ht : TrOk m L D) (hm : MbAt w m A) (hL : IntsM w la L) (hD : IntsM w da D) (hh : h < m.herds.length) :
    Calls Tryz.prog 46 #[mv m A, tv L D la lc da dc, .int .i64 h, .int .i64 d] w (Gives (.int .i64 (nowTo' m L (startN m h) (D.getD h 0) d (m.places.length - startN m h) : Nat)) w) := by
  have hlen := validM_len hv
  have hst := startN_eq hv hh
  have HIn := Lib.hid (fun p (h1 : startN m h ≤ p) (h2 : p < m.places.length) W hb => r_In (A := A) (lc := lc) (dc := dc) hv ht hm hL hD hh h1 h2 W hb)
  have HDy : Hid (∀ p, dayAt m L D h p = inK m L (startN m h) (D.getD h 0) (p - startN m h)) := fun _ => rfl
  have HN0 : Hid (nowTo' m L (startN m h) (D.getD h 0) d 0 = startN m h) := rfl
  have HNs : Hid (∀ k, nowTo' m L (startN m h) (D.getD h 0) d (k + 1) = if inK m L (startN m h) (D.getD h 0) k ≤ d then startN m h + k else nowTo' m L (startN m h) (D.getD h 0) d k) := fun _ => rfl
  obtain ⟨R, hR⟩ : ∃ R, nowTo' m L (startN m h) (D.getD h 0) d (m.places.length - startN m h) = R := ⟨_, rfl⟩
  rw [hR]
  have HR := Lib.hid hR
  obtain ⟨gb, go, e0, e1, e2, e3, e4⟩ := hm.herds.get4 hh
  have hgb := World.block_lt_of_cell? w _ e1
  simp only at hgb
  clear hR hv ht hm hL hD
  generalize startN m h = s at *
  rw [hst.1] at e1
  have hsn := hst.2
  clear hst e2 e3 e4
  rcases A with ⟨pa, pc, la', lc', ha, hc, sa, sc⟩
  simp only at e0
  subst e0
  unfold mv mcells tv at *
  simp only at *
  have hhi : (h : Int) < (m.herds.length : Int) := by omega
  have hh4 : (m.herds.length : Int) ≤ 4 := by omega
  have hp6 : (m.places.length : Int) ≤ 6 := by omega
  obtain ⟨W1, hW1⟩ : ∃ W1, (w.alloc (.cells #[.slice pa m.places.length pc, .slice la' m.legs.length lc', .slice (some ⟨gb, go, none⟩) m.herds.length hc, .slice sa m.seen.length sc] 27)).alloc (.cells #[.slice la L.length lc, .slice da D.length dc] 75) = W1 := ⟨_, rfl⟩
  have hB1 : Below w.heap.size w W1 := by rw [← hW1]; (repeat (first | assumption | exact Below.refl _ _ | refine Below.drew ?_ | refine Below.alloc ?_ (by first | omega | (simp; done) | (simp; omega)) _ | refine Below.setCell ?_ (by first | omega | (simp; done) | (simp; omega)) _ | refine Below.trans ?_ (Below.mono (by assumption) (by first | omega | (simp; done) | (simp; omega)))))
  have b4 : Blk W1 w.heap.size #[.slice pa m.places.length pc, .slice la' m.legs.length lc', .slice (some ⟨gb, go, none⟩) m.herds.length hc, .slice sa m.seen.length sc] 27 := by rw [← hW1]; exact (Blk.new _ _ _).alloc _
  have b5 : Blk W1 (w.heap.size + 1) #[.slice la L.length lc, .slice da D.length dc] 75 := by rw [← hW1]; exact Blk.new' _ _ _ _ (by simp)
  have i1 := (hB1.cell (p := ⟨gb, go + h * 4, none⟩) hgb).trans e1
  go_enter Tryz.func46, Tryz.ntmps46
  go_upto_region 1 with fail
  (try rw [hW1])
  have r4 := b4.cell
  have r5 := b5.cell
  have l5 := b5.lt
  clear hW1 e1
  go_wp2_with fail
  go_loopw [9, 10] (fun x iv wr => ∃ k p : Nat, s + k = p ∧ p ≤ m.places.length ∧ iv = .int .i64 (p : Int) ∧ x = .int .i64 ((nowTo' m L s (D.getD h 0) d k : Nat) : Int) ∧ Below W1.heap.size W1 wr) (fun _ iv _ => m.places.length - (intOf iv).toNat)
  case atStart => exact ⟨0, s, by omega, by omega, rfl, by rw [HN0.out], Below.refl _ _⟩
  case round =>
    obtain ⟨k, p, hp, hpn, rfl, rfl, hBr⟩ := hrel
    have hBx := hB1.trans (hBr.mono (by omega))
    have c4 := b4.below hBr b4.lt
    have c5 := b5.below hBr b5.lt
    have rr4 := c4.cell
    have rr5 := c5.cell
    clear r4 r5
    by_cases hlt : p < m.places.length
    · have hlti : (p : Int) < (m.places.length : Int) := by omega
      have HI := Lib.hid (HIn.out p (by omega) hlt wr hBx)
      have HS := Lib.hid (HNs.out k)
      have hdy := HDy.out p
      rw [show p - s = k by omega] at hdy
      rw [hdy] at HI
      clear hdy
      obtain ⟨nx, hnx⟩ : ∃ nx, nowTo' m L s (D.getD h 0) d (k + 1) = nx := ⟨_, rfl⟩
      rw [hnx] at HS
      have HNX := Lib.hid hnx
      clear hnx
      generalize nowTo' m L s (D.getD h 0) d k = nw at *
      generalize inK m L s (D.getD h 0) k = dy at *
      go_wp2_with (first
        | (go_at_call 36; refine HI.out.mono ?_; rintro e w2 ⟨rfl, hb2⟩; refine at_stop ?_))
      unfold Stop
      have hB2 := hBr.trans (hb2.mono hBr.size)
      by_cases hc : dy ≤ d
      · have h2 := HS.out
        rw [if_pos hc] at h2
        have H2 := Lib.hid h2
        clear h2 HS
        go_wp2_with fail
        exact ⟨⟨k + 1, p + 1, by omega, by omega, by go_num, by rw [HNX.out, H2.out, hp], hB2⟩, by simp [intOf]; omega⟩
      · have h2 := HS.out
        rw [if_neg hc] at h2
        have H2 := Lib.hid h2
        clear h2 HS
        go_wp2_with fail
        exact ⟨⟨k + 1, p + 1, by omega, by omega, by go_num, by rw [HNX.out, H2.out], hB2⟩, by simp [intOf]; omega⟩
    · have hlti : ¬ (p : Int) < (m.places.length : Int) := by omega
      have hk : k = m.places.length - s := by omega
      rw [hk, HR.out]
      go_wp2_with fail
      (try go_ret)
      exact ⟨rfl, hBx⟩
end Go.Proofs.YteeinehpneppnaaGreat
/- shearworksref01: Dry. -/
set_option linter.unusedVariables false
set_option linter.unusedSimpArgs false
namespace Go.Proofs.YteeinehpneppnaaGreat
open Go.RowKit Go.Proofs
attribute [local irreducible] Ord.walk
theorem inK_addZ (m : Mb) (L : List Int) (s : Nat) (d : Int) : ∀ k, inK m L s d k = d + inK m L s 0 k
  | 0 => by simp [inK]
  | k + 1 => by simp only [inK]; rw [inK_addZ m L s d k]; omega
set_option maxHeartbeats 40000000 in
set_option maxRecDepth 100000 in
theorem r_Dry {m : Mb} {A : Ma} {L D : List Int} {la : Option Addr} {lc : Nat} {da : Option Addr} {dc : Nat} {h : Nat} (w : World) (hv : validM m = true) (hLm : L ∈ prodL m.legs) (ht : TrOk m L D) (hm : MbAt w m A) (hL : IntsM w la L) (hD : IntsM w da D) (hh : h < m.herds.length) :
    Calls Tryz.prog 88 #[mv m A, tv L D la lc da dc, .int .i64 h] w (Gives (.int .i64 (dryM m L (startN m h))) w) := by
  have hlen := validM_len hv
  have hst := startN_eq hv hh
  have hdd := day_in hv ht h
  have HIn : Hid (∀ k, startN m h + k < m.places.length → ∀ W, Below w.heap.size w W → Calls Tryz.prog 36 #[mv m A, tv L D la lc da dc, .int .i64 h, .int .i64 ((startN m h + k : Nat) : Int)] W (Gives (.int .i64 (D.getD h 0 + inK m L (startN m h) 0 k)) W)) := fun k hk W hb => by
    have := in_all (lc := lc) (dc := dc) hv ht hm hL hD hh hst.1 k hk W hb
    rwa [inK_addZ] at this
  have HOn : Hid (∀ k, startN m h + k < m.places.length → ∀ W, Below w.heap.size w W → Calls Tryz.prog 84 #[mv m A, tv L D la lc da dc, .int .i64 h, .int .i64 ((startN m h + k : Nat) : Int)] W (Gives (.int .i64 (onK m L (startN m h) (D.getD h 0) k)) W)) := fun k hk W hb => ons_of hv ht hm hh hst.1 hk (in_all (lc := lc) (dc := dc) hv ht hm hL hD hh hst.1 k hk) W hb
  have HOe : Hid (∀ k, onK m L (startN m h) (D.getD h 0) k = D.getD h 0 + inK m L (startN m h) 0 k + stayK m (startN m h) k) := fun k => by
    show inK m L (startN m h) (D.getD h 0) k + _ = _
    rw [inK_addZ]
  have hsy := Lib.hid (fun k => stay_in hv (startN m h) k)
  have HIb := Lib.hid (fun k => inK_in hv ht (startN m h) (d := 0) (by omega) (by omega) k)
  have HDr := Lib.hid (fun k (hk : k ≤ 6) => dryTo_in hv hLm (startN m h) k hk)
  have HD1 : Hid (dryTo m L (startN m h) 1 = (0, 0)) := by show _ = _; simp [dryTo]
  have HDs : Hid (∀ k, 0 < k → dryTo m L (startN m h) (k + 1) = if waterB m (startN m h + k) = false ∧ startN m h + k + 1 < m.places.length then dryTo m L (startN m h) k else (max (dryTo m L (startN m h) k).1 (inK m L (startN m h) 0 k - (dryTo m L (startN m h) k).2), inK m L (startN m h) 0 k + stayK m (startN m h) k)) := fun k hk => by
    show (if k = 0 ∨ _ then _ else _) = _
    have e : stayK m (startN m h) k = if waterB m (startN m h + k) = true then restI m (startN m h + k) else 0 := by
      unfold stayK; simp [hk]
    rw [e]
    have hk0 : k ≠ 0 := by omega
    simp only [hk0, false_or]
  obtain ⟨R, hR⟩ : ∃ R, dryM m L (startN m h) = R := ⟨_, rfl⟩
  rw [hR]
  have HR : Hid ((dryTo m L (startN m h) (m.places.length - startN m h)).1 = R) := hR
  obtain ⟨gb, go, e0, e1, e2, e3, e4⟩ := hm.herds.get4 hh
  have hgb := World.block_lt_of_cell? w _ e1
  simp only at hgb
  have hpls := hm.places
  clear hR hv ht hm hL hD hLm
  generalize startN m h = s at *
  rw [hst.1] at e1
  have hsn := hst.2
  clear hst e2 e3 e4
  generalize D.getD h 0 = dd at *
  rcases A with ⟨pa, pc, la', lc', ha, hc, sa, sc⟩
  simp only at e0 hpls
  subst e0
  unfold mv mcells tv at *
  simp only at *
  have hhi : (h : Int) < (m.herds.length : Int) := by omega
  have hh4 : (m.herds.length : Int) ≤ 4 := by omega
  have hp6 : (m.places.length : Int) ≤ 6 := by omega
  obtain ⟨W1, hW1⟩ : ∃ W1, (w.alloc (.cells #[.slice pa m.places.length pc, .slice la' m.legs.length lc', .slice (some ⟨gb, go, none⟩) m.herds.length hc, .slice sa m.seen.length sc] 27)).alloc (.cells #[.slice la L.length lc, .slice da D.length dc] 75) = W1 := ⟨_, rfl⟩
  have hB1 : Below w.heap.size w W1 := by rw [← hW1]; (repeat (first | assumption | exact Below.refl _ _ | refine Below.drew ?_ | refine Below.alloc ?_ (by first | omega | (simp; done) | (simp; omega)) _ | refine Below.setCell ?_ (by first | omega | (simp; done) | (simp; omega)) _ | refine Below.trans ?_ (Below.mono (by assumption) (by first | omega | (simp; done) | (simp; omega)))))
  have b3 : Blk W1 w.heap.size #[.slice pa m.places.length pc, .slice la' m.legs.length lc', .slice (some ⟨gb, go, none⟩) m.herds.length hc, .slice sa m.seen.length sc] 27 := by rw [← hW1]; exact (Blk.new _ _ _).alloc _
  have b4 : Blk W1 (w.heap.size + 1) #[.slice la L.length lc, .slice da D.length dc] 75 := by rw [← hW1]; exact Blk.new' _ _ _ _ (by simp)
  have i1 := (hB1.cell (p := ⟨gb, go + h * 4, none⟩) hgb).trans e1
  go_enter Tryz.func88, Tryz.ntmps88
  go_upto_region 1 with fail
  (try rw [hW1])
  have r3 := b3.cell
  have l4 := b4.lt
  clear hW1 e1
  refine Ord.wp_region [(0, 0), (1, 0), (2, 0), (3, 0), (4, 0), (5, 0), (6, 0), (7, 0)] (fun _ => True) (by kernel_rfl) (by kernel_rfl) (fun c a d v w h => by cases d <;> exact h) trivial ?_
  go_wp2_with (first
    | ((with_reducible refine Ord.at_calm ?_); refine Ord.calm_skip rfl ?_ (fun K hK => ?_); (focus (simp [Region.wanted, yielded]; done))) | with_reducible refine Ord.walk_calm rfl rfl (fun K hK => ?_) | ((with_reducible refine Ord.at_wild ?_); refine Ord.wild_fieldAddr rfl rfl (fun W => by simp [go_sem]; rfl) (fun K hK => ?_)) | ((with_reducible refine Ord.at_wild ?_); refine Ord.wild_move rfl rfl (fun K hK => ?_)) | ((with_reducible refine Ord.at_wild ?_); refine Ord.wild_nilCheck rfl rfl (fun K hK => ?_)) | with_reducible refine Ord.walk_eff rfl (by first | (simp; done) | assumption | (go_simp; done) | (repeat (first | assumption | exact Below.refl _ _ | refine Below.drew ?_ | refine Below.alloc ?_ (by first | omega | (simp; done) | (simp; omega)) _ | refine Below.setCell ?_ (by first | omega | (simp; done) | (simp; omega)) _ | refine Below.trans ?_ (Below.mono (by assumption) (by first | omega | (simp; done) | (simp; omega)))))) (fun K hK => ?_) | with_reducible refine Ord.at_fork ?_ ?_ | with_reducible refine Ord.walk_nil ?_ | (with_reducible refine Ord.next_of (by first | (simp; done) | (go_simp; done) | (repeat (first | assumption | exact Below.refl _ _ | refine Below.drew ?_ | refine Below.alloc ?_ (by first | omega | (simp; done) | (simp; omega)) _ | refine Below.setCell ?_ (by first | omega | (simp; done) | (simp; omega)) _ | refine Below.trans ?_ (Below.mono (by assumption) (by first | omega | (simp; done) | (simp; omega)))))) (fun _ => ?_)))
  have b3d := b3.drew
  have b4d := b4.drew
  have hBd := hB1.drew
  obtain ⟨W2, hW2⟩ : ∃ W2, W1.drew = W2 := ⟨_, rfl⟩
  rw [hW2] at b3d b4d hBd ⊢
  clear hW2 b3 b4 hB1 r3 i1 l4
  have l4 := b4d.lt
  go_loopw [7, 8, 9] (fun x y iv wr => ∃ k p f fr : Nat, s + k = p ∧ 0 < k ∧ p ≤ m.places.length ∧ iv = .int .i64 (p : Int) ∧ x = .int .i64 (dryTo m L s k).1 ∧ s + f = fr ∧ fr < m.places.length ∧ y = .int .i64 (fr : Int) ∧ Hid (onK m L s dd f = dd + (dryTo m L s k).2) ∧ Below W2.heap.size W2 wr) (fun _ _ iv _ => m.places.length - (intOf iv).toNat)
  case atStart =>
    refine ⟨1, s + 1, 0, s, rfl, by omega, by omega, by go_num, by rw [HD1.out], rfl, by omega, rfl, ?_, Below.refl _ _⟩
    show _ = _
    rw [HOe.out, HD1.out]
    simp [inK, stayK]
  case round =>
    obtain ⟨k, p, f, fr, hp, hk0, hpn, rfl, rfl, hf, hfn, rfl, hon, hBr⟩ := hrel
    have hBx := hBd.trans (hBr.mono (by omega))
    have c3 := b3d.below hBr b3d.lt
    have c4 := b4d.below hBr b4d.lt
    have rr3 := c3.cell
    by_cases hlt : p < m.places.length
    · have hlti : (p : Int) < (m.places.length : Int) := by omega
      obtain ⟨gp, gq, rfl, p1, p2⟩ := hpls.getP hlt
      have hgp := World.block_lt_of_cell? w _ p1
      simp only at hgp
      have q1 := (hBx.cell (p := ⟨gp, gq + p * 2, none⟩) hgp).trans p1
      have hwb : (m.places[p]).1 = waterB m p := by unfold waterB; rw [List.getElem?_eq_getElem hlt]; rfl
      rw [hwb] at q1
      have HS := Lib.hid (HDs.out k hk0)
      rw [hp] at HS
      have hdk := HDr.out k (by omega)
      have hib := HIb.out k
      have HI : Hid (∀ W, Below wr.heap.size wr W → _) := fun W hb => HIn.out k (by omega) W (hBx.trans (hb.mono hBx.size))
      have HO : Hid (∀ W, Below wr.heap.size wr W → _) := fun W hb => HOn.out f (by omega) W (hBx.trans (hb.mono hBx.size))
      rw [hp] at HI
      rw [hf, hon.out] at HO
      have HOk := Lib.hid (HOe.out k)
      clear p1 p2 hwb HIn HOn HOe HDs HDr HIb
      have hstk : 0 ≤ stayK m s k ∧ stayK m s k ≤ 3 := hsy.out k
      obtain ⟨nx, hnx⟩ : ∃ nx, dryTo m L s (k + 1) = nx := ⟨_, rfl⟩
      rw [hnx] at HS
      have HNX := Lib.hid hnx
      clear hnx
      generalize dryTo m L s k = dk at *
      obtain ⟨a1, a2⟩ := dk
      obtain ⟨onk, honk⟩ : ∃ onk, onK m L s dd k = onk := ⟨_, rfl⟩
      rw [honk] at HOk
      have HONK := Lib.hid honk
      clear honk
      generalize inK m L s 0 k = x at *
      generalize stayK m s k = sk at *
      simp only at *
      cases hwt : waterB m p
      · rw [hwt] at q1 HS
        by_cases hl : p + 1 < m.places.length
        · have hl1 : ((p : Int) == (m.places.length : Int) - 1) = false := by simp; omega
          have h2 := HS.out
          rw [if_pos ⟨rfl, hl⟩] at h2
          have H2 := Lib.hid h2
          clear h2 HS hwt
          go_wp2_with fail
          refine ⟨⟨k + 1, p + 1, f, fr, by omega, by omega, by omega, by go_num, by rw [HNX.out, H2.out], hf, hfn, rfl, ?_, hBr⟩, by simp [intOf]; omega⟩
          show _ = _
          rw [HNX.out, H2.out]
          exact hon.out
        · have hl1 : ((p : Int) == (m.places.length : Int) - 1) = true := by simp; omega
          have h2 := HS.out
          rw [if_neg (fun h => hl h.2)] at h2
          have H2 := Lib.hid h2
          clear h2 HS hwt
          go_wp2_with fail
          refine Ord.wp_region [(0, 1), (1, 0), (2, 0), (3, 0), (4, 0), (6, 1), (7, 1), (8, 1), (9, 1), (13, 1), (5, 2), (10, 2), (11, 0), (12, 0), (14, 0), (15, 0)] (fun W' => Below wr.heap.size wr W') (by kernel_rfl) (by kernel_rfl) (fun c a d v w h => by cases d <;> exact h) (Below.refl _ _).drew ?_
          go_wp2_with (first
            | (refine wpList_load_blk 27 (.tmp 3) agg_mob rfl rfl rfl c3.drew rfl ?_)
            | (refine wpList_load_blk 75 (.tmp 4) agg_truth rfl rfl rfl c4.drew rfl ?_)
            | ((with_reducible refine Ord.at_wild ?_); refine Ord.wild_load (ad := ⟨w.heap.size, 0, none⟩) (.agg #[.slice (some ⟨gp, gq, none⟩) m.places.length pc, .slice la' m.legs.length lc', .slice (some ⟨gb, go, none⟩) m.herds.length hc, .slice sa m.seen.length sc]) rfl rfl ?_ ?_; (focus (intro W hW; exact loadVar_blk agg_mob (c3.below hW c3.lt) rfl)); intro K hK)
            | ((with_reducible refine Ord.at_wild ?_); refine Ord.wild_load (ad := ⟨w.heap.size + 1, 0, none⟩) (.agg #[.slice la L.length lc, .slice da D.length dc]) rfl rfl ?_ ?_; (focus (intro W hW; exact loadVar_blk agg_truth (c4.below hW c4.lt) rfl)); intro K hK)
            | (go_at_call 36; refine (HI.out _ (by (repeat (first | assumption | exact Below.refl _ _ | refine Below.drew ?_ | refine Below.alloc ?_ (by first | omega | (simp; done) | (simp; omega)) _ | refine Below.setCell ?_ (by first | omega | (simp; done) | (simp; omega)) _ | refine Below.trans ?_ (Below.mono (by assumption) (by first | omega | (simp; done) | (simp; omega))))))).mono ?_; rintro e w7 ⟨rfl, hb7⟩; have hz7 := hb7.size; (try simp only [World.size_drew] at hz7))
            | (go_at_call 84; refine (HO.out _ (by (repeat (first | assumption | exact Below.refl _ _ | refine Below.drew ?_ | refine Below.alloc ?_ (by first | omega | (simp; done) | (simp; omega)) _ | refine Below.setCell ?_ (by first | omega | (simp; done) | (simp; omega)) _ | refine Below.trans ?_ (Below.mono (by assumption) (by first | omega | (simp; done) | (simp; omega))))))).mono ?_; rintro e w8 ⟨rfl, hb8⟩; have hz8 := hb8.size; refine at_stop ?_)
            | ((with_reducible refine Ord.at_calm ?_); refine Ord.calm_skip rfl ?_ (fun K hK => ?_); (focus (simp [Region.wanted, yielded]; done))) | with_reducible refine Ord.walk_calm rfl rfl (fun K hK => ?_) | ((with_reducible refine Ord.at_wild ?_); refine Ord.wild_fieldAddr rfl rfl (fun W => by simp [go_sem]; rfl) (fun K hK => ?_)) | ((with_reducible refine Ord.at_wild ?_); refine Ord.wild_move rfl rfl (fun K hK => ?_)) | ((with_reducible refine Ord.at_wild ?_); refine Ord.wild_nilCheck rfl rfl (fun K hK => ?_)) | with_reducible refine Ord.walk_eff rfl (by first | (simp; done) | assumption | (go_simp; done) | (repeat (first | assumption | exact Below.refl _ _ | refine Below.drew ?_ | refine Below.alloc ?_ (by first | omega | (simp; done) | (simp; omega)) _ | refine Below.setCell ?_ (by first | omega | (simp; done) | (simp; omega)) _ | refine Below.trans ?_ (Below.mono (by assumption) (by first | omega | (simp; done) | (simp; omega)))))) (fun K hK => ?_) | with_reducible refine Ord.at_fork ?_ ?_ | with_reducible refine Ord.walk_nil ?_ | (with_reducible refine Ord.next_of (by first | (simp; done) | (go_simp; done) | (repeat (first | assumption | exact Below.refl _ _ | refine Below.drew ?_ | refine Below.alloc ?_ (by first | omega | (simp; done) | (simp; omega)) _ | refine Below.setCell ?_ (by first | omega | (simp; done) | (simp; omega)) _ | refine Below.trans ?_ (Below.mono (by assumption) (by first | omega | (simp; done) | (simp; omega)))))) (fun _ => ?_)))
          unfold Stop
          have hb8w : Below wr.heap.size wr w8 := by (repeat (first | assumption | exact Below.refl _ _ | refine Below.drew ?_ | refine Below.alloc ?_ (by first | omega | (simp; done) | (simp; omega)) _ | refine Below.setCell ?_ (by first | omega | (simp; done) | (simp; omega)) _ | refine Below.trans ?_ (Below.mono (by assumption) (by first | omega | (simp; done) | (simp; omega)))))
          have hB8 : Below W2.heap.size W2 w8 := hBr.trans (hb8w.mono hBr.size)
          go_wp2_with (first
            | ((with_reducible refine Ord.at_calm ?_); refine Ord.calm_skip rfl ?_ (fun K hK => ?_); (focus (simp [Region.wanted, yielded]; done))) | with_reducible refine Ord.walk_calm rfl rfl (fun K hK => ?_) | ((with_reducible refine Ord.at_wild ?_); refine Ord.wild_fieldAddr rfl rfl (fun W => by simp [go_sem]; rfl) (fun K hK => ?_)) | ((with_reducible refine Ord.at_wild ?_); refine Ord.wild_move rfl rfl (fun K hK => ?_)) | ((with_reducible refine Ord.at_wild ?_); refine Ord.wild_nilCheck rfl rfl (fun K hK => ?_)) | with_reducible refine Ord.walk_eff rfl (by first | (simp; done) | assumption | (go_simp; done) | (repeat (first | assumption | exact Below.refl _ _ | refine Below.drew ?_ | refine Below.alloc ?_ (by first | omega | (simp; done) | (simp; omega)) _ | refine Below.setCell ?_ (by first | omega | (simp; done) | (simp; omega)) _ | refine Below.trans ?_ (Below.mono (by assumption) (by first | omega | (simp; done) | (simp; omega)))))) (fun K hK => ?_) | with_reducible refine Ord.at_fork ?_ ?_ | with_reducible refine Ord.walk_nil ?_ | (with_reducible refine Ord.next_of (by first | (simp; done) | (go_simp; done) | (repeat (first | assumption | exact Below.refl _ _ | refine Below.drew ?_ | refine Below.alloc ?_ (by first | omega | (simp; done) | (simp; omega)) _ | refine Below.setCell ?_ (by first | omega | (simp; done) | (simp; omega)) _ | refine Below.trans ?_ (Below.mono (by assumption) (by first | omega | (simp; done) | (simp; omega)))))) (fun _ => ?_)))
          all_goals
            refine ⟨⟨k + 1, p + 1, k, p, by omega, by omega, by omega, by go_num, ?_, hp, hlt, rfl, ?_, hB8⟩, by simp [intOf]; omega⟩
            · have e : (if a1 < dd + x - (dd + a2) then dd + x - (dd + a2) else a1) = max a1 (x - a2) := by split <;> omega
              rw [HNX.out, H2.out, e]
            · show _ = _
              rw [HNX.out, H2.out, HONK.out, HOk.out]
              simp only
              omega
      · rw [hwt] at q1 HS
        have h2 := HS.out
        rw [if_neg (fun h => absurd h.1 (by simp))] at h2
        have H2 := Lib.hid h2
        clear h2 HS hwt
        go_wp2_with fail
        refine Ord.wp_region [(0, 1), (1, 0), (2, 0), (3, 0), (4, 0), (6, 1), (7, 1), (8, 1), (9, 1), (13, 1), (5, 2), (10, 2), (11, 0), (12, 0), (14, 0), (15, 0)] (fun W' => Below wr.heap.size wr W') (by kernel_rfl) (by kernel_rfl) (fun c a d v w h => by cases d <;> exact h) (Below.refl _ _).drew ?_
        go_wp2_with (first
          | (refine wpList_load_blk 27 (.tmp 3) agg_mob rfl rfl rfl c3.drew rfl ?_)
          | (refine wpList_load_blk 75 (.tmp 4) agg_truth rfl rfl rfl c4.drew rfl ?_)
          | ((with_reducible refine Ord.at_wild ?_); refine Ord.wild_load (ad := ⟨w.heap.size, 0, none⟩) (.agg #[.slice (some ⟨gp, gq, none⟩) m.places.length pc, .slice la' m.legs.length lc', .slice (some ⟨gb, go, none⟩) m.herds.length hc, .slice sa m.seen.length sc]) rfl rfl ?_ ?_; (focus (intro W hW; exact loadVar_blk agg_mob (c3.below hW c3.lt) rfl)); intro K hK)
          | ((with_reducible refine Ord.at_wild ?_); refine Ord.wild_load (ad := ⟨w.heap.size + 1, 0, none⟩) (.agg #[.slice la L.length lc, .slice da D.length dc]) rfl rfl ?_ ?_; (focus (intro W hW; exact loadVar_blk agg_truth (c4.below hW c4.lt) rfl)); intro K hK)
          | (go_at_call 36; refine (HI.out _ (by (repeat (first | assumption | exact Below.refl _ _ | refine Below.drew ?_ | refine Below.alloc ?_ (by first | omega | (simp; done) | (simp; omega)) _ | refine Below.setCell ?_ (by first | omega | (simp; done) | (simp; omega)) _ | refine Below.trans ?_ (Below.mono (by assumption) (by first | omega | (simp; done) | (simp; omega))))))).mono ?_; rintro e w7 ⟨rfl, hb7⟩; have hz7 := hb7.size; (try simp only [World.size_drew] at hz7))
          | (go_at_call 84; refine (HO.out _ (by (repeat (first | assumption | exact Below.refl _ _ | refine Below.drew ?_ | refine Below.alloc ?_ (by first | omega | (simp; done) | (simp; omega)) _ | refine Below.setCell ?_ (by first | omega | (simp; done) | (simp; omega)) _ | refine Below.trans ?_ (Below.mono (by assumption) (by first | omega | (simp; done) | (simp; omega))))))).mono ?_; rintro e w8 ⟨rfl, hb8⟩; have hz8 := hb8.size; refine at_stop ?_)
          | ((with_reducible refine Ord.at_calm ?_); refine Ord.calm_skip rfl ?_ (fun K hK => ?_); (focus (simp [Region.wanted, yielded]; done))) | with_reducible refine Ord.walk_calm rfl rfl (fun K hK => ?_) | ((with_reducible refine Ord.at_wild ?_); refine Ord.wild_fieldAddr rfl rfl (fun W => by simp [go_sem]; rfl) (fun K hK => ?_)) | ((with_reducible refine Ord.at_wild ?_); refine Ord.wild_move rfl rfl (fun K hK => ?_)) | ((with_reducible refine Ord.at_wild ?_); refine Ord.wild_nilCheck rfl rfl (fun K hK => ?_)) | with_reducible refine Ord.walk_eff rfl (by first | (simp; done) | assumption | (go_simp; done) | (repeat (first | assumption | exact Below.refl _ _ | refine Below.drew ?_ | refine Below.alloc ?_ (by first | omega | (simp; done) | (simp; omega)) _ | refine Below.setCell ?_ (by first | omega | (simp; done) | (simp; omega)) _ | refine Below.trans ?_ (Below.mono (by assumption) (by first | omega | (simp; done) | (simp; omega)))))) (fun K hK => ?_) | with_reducible refine Ord.at_fork ?_ ?_ | with_reducible refine Ord.walk_nil ?_ | (with_reducible refine Ord.next_of (by first | (simp; done) | (go_simp; done) | (repeat (first | assumption | exact Below.refl _ _ | refine Below.drew ?_ | refine Below.alloc ?_ (by first | omega | (simp; done) | (simp; omega)) _ | refine Below.setCell ?_ (by first | omega | (simp; done) | (simp; omega)) _ | refine Below.trans ?_ (Below.mono (by assumption) (by first | omega | (simp; done) | (simp; omega)))))) (fun _ => ?_)))
        unfold Stop
        have hb8w : Below wr.heap.size wr w8 := by (repeat (first | assumption | exact Below.refl _ _ | refine Below.drew ?_ | refine Below.alloc ?_ (by first | omega | (simp; done) | (simp; omega)) _ | refine Below.setCell ?_ (by first | omega | (simp; done) | (simp; omega)) _ | refine Below.trans ?_ (Below.mono (by assumption) (by first | omega | (simp; done) | (simp; omega)))))
        have hB8 : Below W2.heap.size W2 w8 := hBr.trans (hb8w.mono hBr.size)
        go_wp2_with (first
          | ((with_reducible refine Ord.at_calm ?_); refine Ord.calm_skip rfl ?_ (fun K hK => ?_); (focus (simp [Region.wanted, yielded]; done))) | with_reducible refine Ord.walk_calm rfl rfl (fun K hK => ?_) | ((with_reducible refine Ord.at_wild ?_); refine Ord.wild_fieldAddr rfl rfl (fun W => by simp [go_sem]; rfl) (fun K hK => ?_)) | ((with_reducible refine Ord.at_wild ?_); refine Ord.wild_move rfl rfl (fun K hK => ?_)) | ((with_reducible refine Ord.at_wild ?_); refine Ord.wild_nilCheck rfl rfl (fun K hK => ?_)) | with_reducible refine Ord.walk_eff rfl (by first | (simp; done) | assumption | (go_simp; done) | (repeat (first | assumption | exact Below.refl _ _ | refine Below.drew ?_ | refine Below.alloc ?_ (by first | omega | (simp; done) | (simp; omega)) _ | refine Below.setCell ?_ (by first | omega | (simp; done) | (simp; omega)) _ | refine Below.trans ?_ (Below.mono (by assumption) (by first | omega | (simp; done) | (simp; omega)))))) (fun K hK => ?_) | with_reducible refine Ord.at_fork ?_ ?_ | with_reducible refine Ord.walk_nil ?_ | (with_reducible refine Ord.next_of (by first | (simp; done) | (go_simp; done) | (repeat (first | assumption | exact Below.refl _ _ | refine Below.drew ?_ | refine Below.alloc ?_ (by first | omega | (simp; done) | (simp; omega)) _ | refine Below.setCell ?_ (by first | omega | (simp; done) | (simp; omega)) _ | refine Below.trans ?_ (Below.mono (by assumption) (by first | omega | (simp; done) | (simp; omega)))))) (fun _ => ?_)))
        all_goals
          refine ⟨⟨k + 1, p + 1, k, p, by omega, by omega, by omega, by go_num, ?_, hp, hlt, rfl, ?_, hB8⟩, by simp [intOf]; omega⟩
          · have e : (if a1 < dd + x - (dd + a2) then dd + x - (dd + a2) else a1) = max a1 (x - a2) := by split <;> omega
            rw [HNX.out, H2.out, e]
          · show _ = _
            rw [HNX.out, H2.out, HONK.out, HOk.out]
            simp only
            omega
    · have hlti : ¬ (p : Int) < (m.places.length : Int) := by omega
      have hk : k = m.places.length - s := by omega
      rw [hk, HR.out]
      go_wp2_with fail
      (try go_ret)
      exact ⟨rfl, hBx⟩
end Go.Proofs.YteeinehpneppnaaGreat
/- shearworksref01: Ahead, where there is a truth. -/
set_option linter.unusedVariables false
set_option linter.unusedSimpArgs false
namespace Go.Proofs.YteeinehpneppnaaGreat
open Go.RowKit Go.Proofs
attribute [local irreducible] Ord.walk
theorem TruthsAt.below {w w' : World} {v : Value} {T : List (List Int × List Int)} (h : TruthsAt w v T) (hb : Below w.heap.size w w') : TruthsAt w' v T := by
  obtain ⟨a, c, rfl, hr⟩ := h
  refine ⟨a, c, rfl, fun i hi => ?_⟩
  obtain ⟨g, o, y, z, e, h1, h2, h3, h4⟩ := hr i hi
  exact ⟨g, o, y, z, e, cell_later hb h1, cell_later hb h2, h3.keep (KeepT.of_below hb : KeepT 0 72 w w') (by decide), h4.keep (KeepT.of_below hb : KeepT 0 72 w w') (by decide)⟩
theorem TM_mem {m : Mb} {t : List Int × List Int} (h : t ∈ TM m) : TrOk m t.1 t.2 := by
  unfold TM truthsM at h
  obtain ⟨L, hL, h2⟩ := List.mem_flatMap.1 h
  obtain ⟨D, hD, rfl⟩ := List.mem_map.1 h2
  exact trOk_of hL (List.mem_filter.1 hD).1
theorem TM_len {m : Mb} (hv : validM m = true) : (TM m).length ≤ 70000 := by
  have h1 := legs_len hv
  have h2 := leaves_len hv
  have h3 := tO_len (fun L D => rightM m L D (everyN m)) (prodL m.legs) (prodL (leavesL m)) (prodL m.legs).length
  rw [tO_all] at h3
  have h4 := Nat.mul_le_mul h1 h2
  unfold TM truthsM
  omega
/-- What a call of known yields where there is a truth. -/
theorem known_yes {m : Mb} {vb : Bool} (h : knownE m vb = 0) : validM m = true ∧ vb = true ∧ TM m ≠ [] := by
  unfold knownE at h
  cases hv : validM m
  · rw [hv] at h; simp at h
  · cases vb
    · rw [hv] at h; simp at h
    · refine ⟨rfl, rfl, fun e => ?_⟩
      rw [hv, e] at h; simp at h
theorem count_take {α : Type} (l : List α) (p : α → Bool) (k : Nat) (hk : k < l.length) : (l.take (k + 1)).countP p = (l.take k).countP p + (if p l[k] then 1 else 0) := by
  rw [List.take_succ_eq_append_getElem hk, List.countP_append]
  simp
theorem TruthsAt.get {w : World} {a : Option Addr} {n c : Nat} {T : List (List Int × List Int)} (h : TruthsAt w (.slice a n c) T) {k : Nat} (hk : k < T.length) :
    ∃ g o la lc da dc, a = some ⟨g, o, none⟩ ∧ w.cell? ⟨g, o + k * 2, none⟩ = some (.slice la (T[k]).1.length lc) ∧ w.cell? ⟨g, o + k * 2 + 1, none⟩ = some (.slice da (T[k]).2.length dc) ∧ IntsM w la (T[k]).1 ∧ IntsM w da (T[k]).2 := by
  obtain ⟨a', c', e, hr⟩ := h
  cases e
  obtain ⟨g, o, y, z, e1, h1, h2, h3, h4⟩ := hr k hk
  obtain ⟨la, lc, rfl, k3⟩ := h3.ints
  obtain ⟨da, dc, rfl, k4⟩ := h4.ints
  exact ⟨g, o, la, lc, da, dc, e1, h1, h2, k3, k4⟩
end Go.Proofs.YteeinehpneppnaaGreat
/- shearworksref01: stretches. -/
set_option linter.unusedVariables false
set_option linter.unusedSimpArgs false
namespace Go.Proofs.YteeinehpneppnaaGreat
open Go.RowKit Go.Proofs
attribute [local irreducible] Ord.walk
/-- The longest stretch in a truth. -/
def dryT (m : Mb) (h : Nat) (t : List Int × List Int) : Int := dryM m t.1 (startN m h)
theorem ints_own {w : World} {base : Nat} {v : Value} {l : List Int} (hne : l ≠ []) (h : w.ownsRow base 3 1 v l.length (l.map icell)) : ∃ a c, v = .slice a l.length c ∧ IntsM w a l := (IntRow.of_own h).ints
set_option maxHeartbeats 40000000 in
set_option maxRecDepth 100000 in
theorem r_stretches {m : Mb} {A : Ma} {ta : Option Addr} {tc : Nat} {h : Nat} (w : World) (hv : validM m = true) (hm : MbAt w m A) (hT : TruthsAt w (.slice ta (TM m).length tc) (TM m)) (hT0 : TM m ≠ []) (hh : h < m.herds.length) :
    Calls Tryz.prog 52 #[mv m A, .slice ta (TM m).length tc, .int .i64 h] w (Gives (spv (joinL (((TM m).map (dryT m h)).map dup))) w) := by
  have hTl := TM_len hv
  have HDr := Lib.hid (fun (t : List Int × List Int) (ht : t ∈ TM m) la lc da dc W (hb : Below w.heap.size w W) (hL : IntsM W la t.1) (hD : IntsM W da t.2) => r_Dry (A := A) (lc := lc) (dc := dc) W hv (by
    unfold TM truthsM at ht
    obtain ⟨L', hL', h2⟩ := List.mem_flatMap.1 ht
    obtain ⟨D', hD', e⟩ := List.mem_map.1 h2
    cases e
    exact hL') (TM_mem ht) (hm.below hb) hL hD hh)
  have HDe : Hid (∀ t, dryM m t.1 (startN m h) = dryT m h t) := fun _ => rfl
  obtain ⟨i0, hi0, hz0, hz1, hz2⟩ := info_of Tryz.info3
  generalize TM m = T at *
  have hpos := List.length_pos_iff.2 hT0
  obtain ⟨R, hR⟩ : ∃ R, joinL ((T.map (dryT m h)).map dup) = R := ⟨_, rfl⟩
  rw [hR]
  have HH := Lib.hid (fun a c W hr => r_hull (T.map (dryT m h)) (by simpa using hT0) (by rw [List.length_map]; omega) a c W hr)
  rw [hR] at HH
  simp only [HDe.out] at HDr
  clear hR hv hm
  generalize hf : dryT m h = f at *
  clear hf HDe
  rcases A with ⟨pa, pc, la', lc', ha, hc, sa, sc⟩
  unfold mv mcells tv at *
  simp only at *
  obtain ⟨W1, hW1⟩ : ∃ W1, (w.alloc (.cells #[.slice pa m.places.length pc, .slice la' m.legs.length lc', .slice ha m.herds.length hc, .slice sa m.seen.length sc] 27)).alloc (.cells #[.int .i64 0, .int .i64 0] 31) = W1 := ⟨_, rfl⟩
  have hB1 : Below w.heap.size w W1 := by rw [← hW1]; (repeat (first | assumption | exact Below.refl _ _ | refine Below.drew ?_ | refine Below.alloc ?_ (by first | omega | (simp; done) | (simp; omega)) _ | refine Below.setCell ?_ (by first | omega | (simp; done) | (simp; omega)) _ | refine Below.trans ?_ (Below.mono (by assumption) (by first | omega | (simp; done) | (simp; omega)))))
  have b3 : Blk W1 w.heap.size #[.slice pa m.places.length pc, .slice la' m.legs.length lc', .slice ha m.herds.length hc, .slice sa m.seen.length sc] 27 := by rw [← hW1]; exact (Blk.new _ _ _).alloc _
  have b6 : Blk W1 (w.heap.size + 1) #[.int .i64 0, .int .i64 0] 31 := by rw [← hW1]; exact Blk.new' _ _ _ _ (by simp)
  have l6 := b6.lt
  go_enter Tryz.func52, Tryz.ntmps52
  go_upto_region 1 with fail
  (try rw [hW1])
  clear hW1
  go_wp2_with fail
  go_loopw [7, 8] (fun x iv wr => ∃ k : Nat, k ≤ T.length ∧ iv = .int .i64 (k : Int) ∧ Below W1.heap.size W1 wr ∧ wr.ownsRow W1.heap.size 3 1 x k (((T.take k).map f).map icell)) (fun _ iv _ => T.length - (intOf iv).toNat)
  case atStart => exact ⟨0, Nat.zero_le _, rfl, Below.refl _ _, World.ownsRow_nil _ _ _ _⟩
  case round =>
    obtain ⟨k, hk, rfl, hBr, hown⟩ := hrel
    have hBx := hB1.trans (hBr.mono (by omega))
    have c3 := b3.below hBr (by omega)
    have hsr := hBr.size
    by_cases hlt : k < T.length
    · have hlti : (k : Int) < (T.length : Int) := by omega
      obtain ⟨g, o, la2, lc2, da, dc, rfl, c1, c2, hL, hD⟩ := (hT.below hBx).get hlt
      have HD := Lib.hid (fun W (hb : Below wr.heap.size wr W) => HDr.out T[k] (List.getElem_mem hlt) la2 lc2 da dc W (hBx.trans (hb.mono hBx.size)) (hL.below hb) (hD.below hb))
      have hTk : Hid (T.take (k + 1) = T.take k ++ [T[k]]) := List.take_succ_eq_append_getElem hlt
      have hgl := World.block_lt_of_cell? wr _ c1
      simp only at hgl
      clear hL hD HDr
      generalize T[k] = t at *
      obtain ⟨tL, tD⟩ := t
      simp only at *
      go_wp2_with fail
      refine Ord.wp_region [(0, 1), (1, 0), (2, 0), (3, 0), (4, 0), (5, 0), (6, 0), (7, 2), (8, 2), (9, 2), (10, 0)] (fun W' => Below W1.heap.size W1 W') (by kernel_rfl) (by kernel_rfl) (fun c a d v w h => by cases d <;> exact h) hBr.drew ?_
      go_wp2_with (first
        | (refine wpList_load_blk 27 (.tmp 3) agg_mob rfl rfl rfl c3.drew rfl ?_)
        | (go_at_call 88; refine (HD.out _ (by (repeat (first | assumption | exact Below.refl _ _ | refine Below.drew ?_ | refine Below.alloc ?_ (by first | omega | (simp; done) | (simp; omega)) _ | refine Below.setCell ?_ (by first | omega | (simp; done) | (simp; omega)) _ | refine Below.trans ?_ (Below.mono (by assumption) (by first | omega | (simp; done) | (simp; omega))))))).mono ?_; rintro e w7 ⟨rfl, hb7⟩; have hz7 := hb7.size; have hb7w : Below W1.heap.size W1 w7 := hBr.trans (((Below.refl _ _).drew.trans hb7).mono hsr); refine at_stop ?_)
        | ((with_reducible refine Ord.at_calm ?_); refine Ord.calm_skip rfl ?_ (fun K hK => ?_); (focus (simp [Region.wanted, yielded]; done))) | with_reducible refine Ord.walk_calm rfl rfl (fun K hK => ?_) | ((with_reducible refine Ord.at_wild ?_); refine Ord.wild_fieldAddr rfl rfl (fun W => by simp [go_sem]; rfl) (fun K hK => ?_)) | ((with_reducible refine Ord.at_wild ?_); refine Ord.wild_move rfl rfl (fun K hK => ?_)) | ((with_reducible refine Ord.at_wild ?_); refine Ord.wild_nilCheck rfl rfl (fun K hK => ?_)) | with_reducible refine Ord.walk_eff rfl (by first | (simp; done) | assumption | (go_simp; done) | (repeat (first | assumption | exact Below.refl _ _ | refine Below.drew ?_ | refine Below.alloc ?_ (by first | omega | (simp; done) | (simp; omega)) _ | refine Below.setCell ?_ (by first | omega | (simp; done) | (simp; omega)) _ | refine Below.trans ?_ (Below.mono (by assumption) (by first | omega | (simp; done) | (simp; omega)))))) (fun K hK => ?_) | with_reducible refine Ord.at_fork ?_ ?_ | with_reducible refine Ord.walk_nil ?_ | (with_reducible refine Ord.next_of (by first | (simp; done) | (go_simp; done) | (repeat (first | assumption | exact Below.refl _ _ | refine Below.drew ?_ | refine Below.alloc ?_ (by first | omega | (simp; done) | (simp; omega)) _ | refine Below.setCell ?_ (by first | omega | (simp; done) | (simp; omega)) _ | refine Below.trans ?_ (Below.mono (by assumption) (by first | omega | (simp; done) | (simp; omega)))))) (fun _ => ?_)))
      unfold Stop
      have hs7 := hb7w.size
      have hown7 : w7.ownsRow W1.heap.size 3 1 u7 k (((T.take k).map f).map icell) := ownsRow_below (show wr.drew.ownsRow _ _ _ _ _ _ from hown) hb7
      have hhow : Hid (((T.take (k + 1)).map f).map icell = ((T.take k).map f).map icell ++ [.int .i64 (f (tL, tD))]) := by
        show _ = _; rw [hTk.out]; simp [icell]
      clear hb7 hown
      go_wp2_with (first
        | (at_builtin; refine at_stop ?_)
        | ((with_reducible refine Ord.at_calm ?_); refine Ord.calm_skip rfl ?_ (fun K hK => ?_); (focus (simp [Region.wanted, yielded]; done))) | with_reducible refine Ord.walk_calm rfl rfl (fun K hK => ?_) | ((with_reducible refine Ord.at_wild ?_); refine Ord.wild_fieldAddr rfl rfl (fun W => by simp [go_sem]; rfl) (fun K hK => ?_)) | ((with_reducible refine Ord.at_wild ?_); refine Ord.wild_move rfl rfl (fun K hK => ?_)) | ((with_reducible refine Ord.at_wild ?_); refine Ord.wild_nilCheck rfl rfl (fun K hK => ?_)) | with_reducible refine Ord.walk_eff rfl (by first | (simp; done) | assumption | (go_simp; done) | (repeat (first | assumption | exact Below.refl _ _ | refine Below.drew ?_ | refine Below.alloc ?_ (by first | omega | (simp; done) | (simp; omega)) _ | refine Below.setCell ?_ (by first | omega | (simp; done) | (simp; omega)) _ | refine Below.trans ?_ (Below.mono (by assumption) (by first | omega | (simp; done) | (simp; omega)))))) (fun K hK => ?_) | with_reducible refine Ord.at_fork ?_ ?_ | with_reducible refine Ord.walk_nil ?_ | (with_reducible refine Ord.next_of (by first | (simp; done) | (go_simp; done) | (repeat (first | assumption | exact Below.refl _ _ | refine Below.drew ?_ | refine Below.alloc ?_ (by first | omega | (simp; done) | (simp; omega)) _ | refine Below.setCell ?_ (by first | omega | (simp; done) | (simp; omega)) _ | refine Below.trans ?_ (Below.mono (by assumption) (by first | omega | (simp; done) | (simp; omega)))))) (fun _ => ?_)))
      unfold Stop
      refine wpList_append_own _ rfl (.tmp 15) (.tmp 23) 72 rfl W1.heap.size 3 i0 (.int .i64 0) 1 8 Tryz.underlying72 hi0 hz0 hz1 hz2 rfl (by decide) u7 k (((T.take k).map f).map icell) rfl (World.ownsRow.alloc hown7 _) ⟨w7.heap.size, 0, none⟩ 1 1 [.int .i64 (f (tL, tD))] rfl rfl (news_blk (A := #[.int .i64 (f (tL, tD))]) (Blk.new _ _ _)) (by simp [Value.oneCell']) (by unfold maxLen; omega) (by omega) (by simp; omega) ?_
      intro v8 w8 hown8 hgrow8 _
      have hB8 : Below W1.heap.size W1 w8 := (hb7w.alloc hs7 _).grown hgrow8 (by simp; omega) (fun j e => (hown7.lt j e).1)
      clear hgrow8
      go_wp2_with (first
        | ((with_reducible refine Ord.at_calm ?_); refine Ord.calm_skip rfl ?_ (fun K hK => ?_); (focus (simp [Region.wanted, yielded]; done))) | with_reducible refine Ord.walk_calm rfl rfl (fun K hK => ?_) | ((with_reducible refine Ord.at_wild ?_); refine Ord.wild_fieldAddr rfl rfl (fun W => by simp [go_sem]; rfl) (fun K hK => ?_)) | ((with_reducible refine Ord.at_wild ?_); refine Ord.wild_move rfl rfl (fun K hK => ?_)) | ((with_reducible refine Ord.at_wild ?_); refine Ord.wild_nilCheck rfl rfl (fun K hK => ?_)) | with_reducible refine Ord.walk_eff rfl (by first | (simp; done) | assumption | (go_simp; done) | (repeat (first | assumption | exact Below.refl _ _ | refine Below.drew ?_ | refine Below.alloc ?_ (by first | omega | (simp; done) | (simp; omega)) _ | refine Below.setCell ?_ (by first | omega | (simp; done) | (simp; omega)) _ | refine Below.trans ?_ (Below.mono (by assumption) (by first | omega | (simp; done) | (simp; omega)))))) (fun K hK => ?_) | with_reducible refine Ord.at_fork ?_ ?_ | with_reducible refine Ord.walk_nil ?_ | (with_reducible refine Ord.next_of (by first | (simp; done) | (go_simp; done) | (repeat (first | assumption | exact Below.refl _ _ | refine Below.drew ?_ | refine Below.alloc ?_ (by first | omega | (simp; done) | (simp; omega)) _ | refine Below.setCell ?_ (by first | omega | (simp; done) | (simp; omega)) _ | refine Below.trans ?_ (Below.mono (by assumption) (by first | omega | (simp; done) | (simp; omega)))))) (fun _ => ?_)))
      refine ⟨⟨k + 1, by omega, by go_num, hB8, ?_⟩, by simp [intOf]; omega⟩
      rw [hhow.out]
      exact hown8
    · have hlti : ¬ (k : Int) < (T.length : Int) := by omega
      obtain rfl : k = T.length := by omega
      rw [List.take_length] at hown
      have hown2 : wr.ownsRow W1.heap.size 3 1 u7 (T.map f).length ((T.map f).map icell) := by rw [List.length_map]; exact hown
      obtain ⟨ia, ic, rfl, hin⟩ := ints_own (by simpa using hT0) hown2
      have HHr := Lib.hid (HH.out ia ic wr hin)
      have c6 := b6.below hBr l6
      clear HDr HH hin hown hown2
      rw [List.length_map] at HHr ⊢
      go_wp2_with (first
        | (go_at_call 37; refine HHr.out.mono ?_; rintro e w7 ⟨rfl, hb7⟩; have c67 := c6.below hb7 (by omega))
        | (refine wpList_store_blk 31 (.tmp 6) (.tmp 26) agg_span rfl rfl rfl rfl c67 rfl rfl (by simp [Value.oneCell']) ?_; intro w8 h8))
      (try simp only [Exit.inBlock, Exit.then])
      refine bodyPost_ret (v := spv R) (results_cell_blk rfl _ agg_span rfl h8.blk rfl) rfl ⟨rfl, h8.below (hBx.trans (hb7.mono hBx.size)) (by omega)⟩
end Go.Proofs.YteeinehpneppnaaGreat
/- shearworksref01: Comes, Where, Stretch, Safe where known says an error. (Printed by mkZaE.py) -/
set_option linter.unusedVariables false
set_option linter.unusedSimpArgs false
namespace Go.Proofs.YteeinehpneppnaaGreat
open Go.RowKit Go.Proofs
attribute [local irreducible] Ord.walk
theorem knownE_valid (m : Mb) (b : Bool) : knownE m (validM m && b) = knownE m b := by
  unfold knownE
  cases validM m <;> rfl
set_option maxHeartbeats 40000000 in
set_option maxRecDepth 100000 in
theorem r_Comes_no {m : Mb} {A : Ma} {w : World} (i p : Int) (hl : Mlen m) (hm : MbAt w m A) (hk : knownE m (validM m && fromB m i p) ≠ 0) :
    Calls Tryz.prog 7 #[mv m A, .int .i64 i, .int .i64 p] w (Gives2 (spv (0, 0)) (.int .i64 (knownE m (validM m && fromB m i p))) w) := by
  have HM := Lib.hid (fun W (hb : Below w.heap.size w W) => r_mob m A hl W (hm.below hb))
  have HF := Lib.hid (fun W (hb : Below w.heap.size w W) => r_from m A i p hl W (hm.below hb))
  have HK := Lib.hid (fun W vb (hb : Below w.heap.size w W) => r_known vb hl (hm.below hb))
  have HKP : Hid (∀ W e w', KnownPost m (validM m && fromB m i p) W e w' → e = .returned (.tuple #[.slice none 0 0, .int .i64 (knownE m (validM m && fromB m i p))]) ∧ Below W.heap.size W w') := fun W e w' h => by
    obtain ⟨v, rfl, h2, h3⟩ := h
    rw [if_neg hk] at h2
    subst h2
    exact ⟨rfl, h3⟩
  have hkz : (knownE m (validM m && fromB m i p) == 0) = false := by simpa using hk
  generalize knownE m (validM m && fromB m i p) = E at *
  clear hl hm hk
  rcases A with ⟨pa, pc, la, lc, ha, hc, sa, sc⟩
  unfold mv mcells at *
  simp only at *
  obtain ⟨W1, hW1⟩ : ∃ W1, (w.alloc (.cells #[.slice pa m.places.length pc, .slice la m.legs.length lc, .slice ha m.herds.length hc, .slice sa m.seen.length sc] 27)).alloc (.cells #[.int .i64 0, .int .i64 0] 31) = W1 := ⟨_, rfl⟩
  have b1 : Blk W1 w.heap.size #[.slice pa m.places.length pc, .slice la m.legs.length lc, .slice ha m.herds.length hc, .slice sa m.seen.length sc] 27 := by rw [← hW1]; exact (Blk.new _ _ _).alloc _
  have b6 : Blk W1 (w.heap.size + 1) #[.int .i64 0, .int .i64 0] 31 := by rw [← hW1]; exact Blk.new' _ _ _ _ (by simp)
  have hB1 : Below w.heap.size w W1 := by rw [← hW1]; (repeat (first | assumption | exact Below.refl _ _ | refine Below.drew ?_ | refine Below.alloc ?_ (by first | omega | (simp; done) | (simp; omega)) _ | refine Below.setCell ?_ (by first | omega | (simp; done) | (simp; omega)) _ | refine Below.trans ?_ (Below.mono (by assumption) (by first | omega | (simp; done) | (simp; omega)))))
  have hBA : ∀ W, Below W1.heap.size W1 W → Below w.heap.size w W := fun W h => hB1.trans (h.mono hB1.size)
  have HBA := Lib.hid hBA
  have HW1 := Lib.hid hW1
  clear hBA hW1
  cases h1 : validM m <;> cases h2 : fromB m i p
  all_goals
    rw [h1, h2] at HKP
    go_enter Tryz.func7, Tryz.ntmps7
    go_upto_region 1 with fail
    (try rw [HW1.out])
    have r1 := b1.cell
    refine Ord.wp_region [(0, 1), (1, 0), (2, 2), (3, 0), (4, 0), (5, 0), (6, 0), (7, 2), (8, 0), (9, 2), (10, 0), (11, 0), (12, 0), (13, 0), (14, 0)] (fun W' => Below W1.heap.size W1 W') (by kernel_rfl) (by kernel_rfl) (fun c a d v w h => by cases d <;> exact h) (Below.refl _ _).drew ?_
  all_goals
    go_wp2_with (first
      | ((with_reducible refine Ord.at_wild ?_); refine Ord.wild_load (ad := ⟨w.heap.size, 0, none⟩) (.agg #[.slice pa m.places.length pc, .slice la m.legs.length lc, .slice ha m.herds.length hc, .slice sa m.seen.length sc]) rfl rfl ?_ ?_; (focus (intro W hW; exact loadVar_blk agg_mob (b1.below hW b1.lt) rfl)); intro K hK)
      | (go_at_call 15; refine (HM.out _ (HBA.out _ (by (repeat (first | assumption | exact Below.refl _ _ | refine Below.drew ?_ | refine Below.alloc ?_ (by first | omega | (simp; done) | (simp; omega)) _ | refine Below.setCell ?_ (by first | omega | (simp; done) | (simp; omega)) _ | refine Below.trans ?_ (Below.mono (by assumption) (by first | omega | (simp; done) | (simp; omega)))))))).mono ?_; rw [h1]; rintro e w2 ⟨rfl, hb2⟩; have hz2 := hb2.size; (try simp only [World.size_drew] at hz2); try have r2 := (b1.drew.below hb2 (by simpa using b1.lt)).cell)
      | (go_at_call 35; refine (HF.out _ (HBA.out _ (by (repeat (first | assumption | exact Below.refl _ _ | refine Below.drew ?_ | refine Below.alloc ?_ (by first | omega | (simp; done) | (simp; omega)) _ | refine Below.setCell ?_ (by first | omega | (simp; done) | (simp; omega)) _ | refine Below.trans ?_ (Below.mono (by assumption) (by first | omega | (simp; done) | (simp; omega)))))))).mono ?_; rw [h2]; rintro e w2 ⟨rfl, hb2⟩; have hz2 := hb2.size; (try simp only [World.size_drew] at hz2); try have r2 := (b1.drew.below hb2 (by simpa using b1.lt)).cell)
      | (go_at_call 34; refine (HK.out _ _ (HBA.out _ (by (repeat (first | assumption | exact Below.refl _ _ | refine Below.drew ?_ | refine Below.alloc ?_ (by first | omega | (simp; done) | (simp; omega)) _ | refine Below.setCell ?_ (by first | omega | (simp; done) | (simp; omega)) _ | refine Below.trans ?_ (Below.mono (by assumption) (by first | omega | (simp; done) | (simp; omega)))))))).mono ?_; intro e w5 h5; obtain ⟨rfl, hb5⟩ := HKP.out _ _ _ h5; have hB5 : Below W1.heap.size W1 w5 := by (repeat (first | assumption | exact Below.refl _ _ | refine Below.drew ?_ | refine Below.alloc ?_ (by first | omega | (simp; done) | (simp; omega)) _ | refine Below.setCell ?_ (by first | omega | (simp; done) | (simp; omega)) _ | refine Below.trans ?_ (Below.mono (by assumption) (by first | omega | (simp; done) | (simp; omega))))))
      | (refine wpList_store_blk 31 (.tmp 6) (.tmp 27) agg_span rfl rfl rfl rfl (b6.below hB5 b6.lt) rfl rfl (by simp [Value.oneCell']) ?_; intro w8 h8)
      | ((with_reducible refine Ord.at_wild ?_); refine Ord.walk_skip rfl rfl (fun K hK => ?_)) | ((with_reducible refine Ord.at_eff ?_); refine Ord.walk_skip rfl rfl (fun K hK => ?_))
      | ((with_reducible refine Ord.at_calm ?_); refine Ord.calm_skip rfl ?_ (fun K hK => ?_); (focus (simp [Region.wanted, yielded]; done))) | with_reducible refine Ord.walk_calm rfl rfl (fun K hK => ?_) | ((with_reducible refine Ord.at_wild ?_); refine Ord.wild_fieldAddr rfl rfl (fun W => by simp [go_sem]; rfl) (fun K hK => ?_)) | ((with_reducible refine Ord.at_wild ?_); refine Ord.wild_move rfl rfl (fun K hK => ?_)) | ((with_reducible refine Ord.at_wild ?_); refine Ord.wild_nilCheck rfl rfl (fun K hK => ?_)) | with_reducible refine Ord.walk_eff rfl (by first | (simp; done) | assumption | (go_simp; done) | (repeat (first | assumption | exact Below.refl _ _ | refine Below.drew ?_ | refine Below.alloc ?_ (by first | omega | (simp; done) | (simp; omega)) _ | refine Below.setCell ?_ (by first | omega | (simp; done) | (simp; omega)) _ | refine Below.trans ?_ (Below.mono (by assumption) (by first | omega | (simp; done) | (simp; omega)))))) (fun K hK => ?_) | with_reducible refine Ord.at_fork ?_ ?_ | with_reducible refine Ord.walk_nil ?_ | (with_reducible refine Ord.next_of (by first | (simp; done) | (go_simp; done) | (repeat (first | assumption | exact Below.refl _ _ | refine Below.drew ?_ | refine Below.alloc ?_ (by first | omega | (simp; done) | (simp; omega)) _ | refine Below.setCell ?_ (by first | omega | (simp; done) | (simp; omega)) _ | refine Below.trans ?_ (Below.mono (by assumption) (by first | omega | (simp; done) | (simp; omega)))))) (fun _ => ?_)))
    have hc8 := h8.blk.cell
    refine bodyPost_ret (v := .tuple #[spv (0, 0), .int .i64 E]) ?_ rfl ⟨rfl, h8.below (HBA.out _ hB5) (by omega)⟩
    simp [results, Tryz.results7, go_sem, hc8]
set_option maxHeartbeats 40000000 in
set_option maxRecDepth 100000 in
theorem r_Where_no {m : Mb} {A : Ma} {w : World} (i d : Int) (hl : Mlen m) (hm : MbAt w m A) (hk : knownE m (herdB m i && inB d 0 100) ≠ 0) :
    Calls Tryz.prog 9 #[mv m A, .int .i64 i, .int .i64 d] w (Gives2 (.int .i64 0) (.int .i64 (knownE m (herdB m i && inB d 0 100))) w) := by
  have HH := Lib.hid (fun W => r_herd m A i (by have := hl.herds; unfold maxLen; omega) W)
  have HHB : Hid (∀ n, inB n 0 ((m.herds.length : Int) - 1) = herdB m n) := fun _ => rfl
  simp only [HHB.out] at HH
  have HD := Lib.hid (fun W => r_day d W)
  have HK := Lib.hid (fun W vb (hb : Below w.heap.size w W) => r_known vb hl (hm.below hb))
  have HKP : Hid (∀ W e w', KnownPost m (herdB m i && inB d 0 100) W e w' → e = .returned (.tuple #[.slice none 0 0, .int .i64 (knownE m (herdB m i && inB d 0 100))]) ∧ Below W.heap.size W w') := fun W e w' h => by
    obtain ⟨v, rfl, h2, h3⟩ := h
    rw [if_neg hk] at h2
    subst h2
    exact ⟨rfl, h3⟩
  have hkz : (knownE m (herdB m i && inB d 0 100) == 0) = false := by simpa using hk
  generalize knownE m (herdB m i && inB d 0 100) = E at *
  clear hl hm hk
  rcases A with ⟨pa, pc, la, lc, ha, hc, sa, sc⟩
  unfold mv mcells at *
  simp only at *
  obtain ⟨W1, hW1⟩ : ∃ W1, w.alloc (.cells #[.slice pa m.places.length pc, .slice la m.legs.length lc, .slice ha m.herds.length hc, .slice sa m.seen.length sc] 27) = W1 := ⟨_, rfl⟩
  have b1 : Blk W1 w.heap.size #[.slice pa m.places.length pc, .slice la m.legs.length lc, .slice ha m.herds.length hc, .slice sa m.seen.length sc] 27 := by rw [← hW1]; exact Blk.new _ _ _
  have hB1 : Below w.heap.size w W1 := by rw [← hW1]; (repeat (first | assumption | exact Below.refl _ _ | refine Below.drew ?_ | refine Below.alloc ?_ (by first | omega | (simp; done) | (simp; omega)) _ | refine Below.setCell ?_ (by first | omega | (simp; done) | (simp; omega)) _ | refine Below.trans ?_ (Below.mono (by assumption) (by first | omega | (simp; done) | (simp; omega)))))
  have hBA : ∀ W, Below W1.heap.size W1 W → Below w.heap.size w W := fun W h => hB1.trans (h.mono hB1.size)
  have HBA := Lib.hid hBA
  have HW1 := Lib.hid hW1
  clear hBA hW1
  cases h1 : herdB m i <;> cases h2 : inB d 0 100
  all_goals
    rw [h1, h2] at HKP
    go_enter Tryz.func9, Tryz.ntmps9
    go_upto_region 1 with fail
    (try rw [HW1.out])
    have r1 := b1.cell
    refine Ord.wp_region [(0, 1), (1, 0), (2, 0), (3, 2), (4, 0), (5, 0), (6, 2), (7, 0), (8, 2), (9, 0), (10, 0), (11, 0), (12, 0), (13, 0)] (fun W' => Below W1.heap.size W1 W') (by kernel_rfl) (by kernel_rfl) (fun c a d v w h => by cases d <;> exact h) (Below.refl _ _).drew ?_
  all_goals
    go_wp2_with (first
      | ((with_reducible refine Ord.at_wild ?_); refine Ord.wild_load (ad := ⟨w.heap.size, 0, none⟩) (.agg #[.slice pa m.places.length pc, .slice la m.legs.length lc, .slice ha m.herds.length hc, .slice sa m.seen.length sc]) rfl rfl ?_ ?_; (focus (intro W hW; exact loadVar_blk agg_mob (b1.below hW b1.lt) rfl)); intro K hK)
      | (go_at_call 44; refine (HH.out _).mono ?_; rw [h1]; rintro e w2 ⟨rfl, hb2⟩; have hz2 := hb2.size; (try simp only [World.size_drew] at hz2); try have r2 := (b1.drew.below hb2 (by simpa using b1.lt)).cell)
      | (go_at_call 45; refine (HD.out _).mono ?_; rw [h2]; rintro e w2 ⟨rfl, rfl⟩)
      | (go_at_call 34; refine (HK.out _ _ (HBA.out _ (by (repeat (first | assumption | exact Below.refl _ _ | refine Below.drew ?_ | refine Below.alloc ?_ (by first | omega | (simp; done) | (simp; omega)) _ | refine Below.setCell ?_ (by first | omega | (simp; done) | (simp; omega)) _ | refine Below.trans ?_ (Below.mono (by assumption) (by first | omega | (simp; done) | (simp; omega)))))))).mono ?_; intro e w5 h5; obtain ⟨rfl, hb5⟩ := HKP.out _ _ _ h5; have hB5 : Below W1.heap.size W1 w5 := by (repeat (first | assumption | exact Below.refl _ _ | refine Below.drew ?_ | refine Below.alloc ?_ (by first | omega | (simp; done) | (simp; omega)) _ | refine Below.setCell ?_ (by first | omega | (simp; done) | (simp; omega)) _ | refine Below.trans ?_ (Below.mono (by assumption) (by first | omega | (simp; done) | (simp; omega))))))
      | ((with_reducible refine Ord.at_wild ?_); refine Ord.walk_skip rfl rfl (fun K hK => ?_)) | ((with_reducible refine Ord.at_eff ?_); refine Ord.walk_skip rfl rfl (fun K hK => ?_))
      | ((with_reducible refine Ord.at_calm ?_); refine Ord.calm_skip rfl ?_ (fun K hK => ?_); (focus (simp [Region.wanted, yielded]; done))) | with_reducible refine Ord.walk_calm rfl rfl (fun K hK => ?_) | ((with_reducible refine Ord.at_wild ?_); refine Ord.wild_fieldAddr rfl rfl (fun W => by simp [go_sem]; rfl) (fun K hK => ?_)) | ((with_reducible refine Ord.at_wild ?_); refine Ord.wild_move rfl rfl (fun K hK => ?_)) | ((with_reducible refine Ord.at_wild ?_); refine Ord.wild_nilCheck rfl rfl (fun K hK => ?_)) | with_reducible refine Ord.walk_eff rfl (by first | (simp; done) | assumption | (go_simp; done) | (repeat (first | assumption | exact Below.refl _ _ | refine Below.drew ?_ | refine Below.alloc ?_ (by first | omega | (simp; done) | (simp; omega)) _ | refine Below.setCell ?_ (by first | omega | (simp; done) | (simp; omega)) _ | refine Below.trans ?_ (Below.mono (by assumption) (by first | omega | (simp; done) | (simp; omega)))))) (fun K hK => ?_) | with_reducible refine Ord.at_fork ?_ ?_ | with_reducible refine Ord.walk_nil ?_ | (with_reducible refine Ord.next_of (by first | (simp; done) | (go_simp; done) | (repeat (first | assumption | exact Below.refl _ _ | refine Below.drew ?_ | refine Below.alloc ?_ (by first | omega | (simp; done) | (simp; omega)) _ | refine Below.setCell ?_ (by first | omega | (simp; done) | (simp; omega)) _ | refine Below.trans ?_ (Below.mono (by assumption) (by first | omega | (simp; done) | (simp; omega)))))) (fun _ => ?_)))
    go_ret2
    exact ⟨rfl, HBA.out _ (by first | exact hB5 | (repeat (first | assumption | exact Below.refl _ _ | refine Below.drew ?_ | refine Below.alloc ?_ (by first | omega | (simp; done) | (simp; omega)) _ | refine Below.setCell ?_ (by first | omega | (simp; done) | (simp; omega)) _ | refine Below.trans ?_ (Below.mono (by assumption) (by first | omega | (simp; done) | (simp; omega))))))⟩
set_option maxHeartbeats 40000000 in
set_option maxRecDepth 100000 in
theorem r_Stretch_no {m : Mb} {A : Ma} {w : World} (i : Int) (hl : Mlen m) (hm : MbAt w m A) (hk : knownE m (herdB m i) ≠ 0) :
    Calls Tryz.prog 11 #[mv m A, .int .i64 i] w (Gives2 (spv (0, 0)) (.int .i64 (knownE m (herdB m i))) w) := by
  have HH := Lib.hid (fun W => r_herd m A i (by have := hl.herds; unfold maxLen; omega) W)
  have HHB : Hid (∀ n, inB n 0 ((m.herds.length : Int) - 1) = herdB m n) := fun _ => rfl
  simp only [HHB.out] at HH
  have HK := Lib.hid (fun W vb (hb : Below w.heap.size w W) => r_known vb hl (hm.below hb))
  have HKP : Hid (∀ W e w', KnownPost m (herdB m i) W e w' → e = .returned (.tuple #[.slice none 0 0, .int .i64 (knownE m (herdB m i))]) ∧ Below W.heap.size W w') := fun W e w' h => by
    obtain ⟨v, rfl, h2, h3⟩ := h
    rw [if_neg hk] at h2
    subst h2
    exact ⟨rfl, h3⟩
  have hkz : (knownE m (herdB m i) == 0) = false := by simpa using hk
  generalize knownE m (herdB m i) = E at *
  clear hl hm hk
  rcases A with ⟨pa, pc, la, lc, ha, hc, sa, sc⟩
  unfold mv mcells at *
  simp only at *
  obtain ⟨W1, hW1⟩ : ∃ W1, (w.alloc (.cells #[.slice pa m.places.length pc, .slice la m.legs.length lc, .slice ha m.herds.length hc, .slice sa m.seen.length sc] 27)).alloc (.cells #[.int .i64 0, .int .i64 0] 31) = W1 := ⟨_, rfl⟩
  have b1 : Blk W1 w.heap.size #[.slice pa m.places.length pc, .slice la m.legs.length lc, .slice ha m.herds.length hc, .slice sa m.seen.length sc] 27 := by rw [← hW1]; exact (Blk.new _ _ _).alloc _
  have b6 : Blk W1 (w.heap.size + 1) #[.int .i64 0, .int .i64 0] 31 := by rw [← hW1]; exact Blk.new' _ _ _ _ (by simp)
  have hB1 : Below w.heap.size w W1 := by rw [← hW1]; (repeat (first | assumption | exact Below.refl _ _ | refine Below.drew ?_ | refine Below.alloc ?_ (by first | omega | (simp; done) | (simp; omega)) _ | refine Below.setCell ?_ (by first | omega | (simp; done) | (simp; omega)) _ | refine Below.trans ?_ (Below.mono (by assumption) (by first | omega | (simp; done) | (simp; omega)))))
  have hBA : ∀ W, Below W1.heap.size W1 W → Below w.heap.size w W := fun W h => hB1.trans (h.mono hB1.size)
  have HBA := Lib.hid hBA
  have HW1 := Lib.hid hW1
  clear hBA hW1
  cases h1 : herdB m i
  all_goals
    rw [h1] at HKP
    go_enter Tryz.func11, Tryz.ntmps11
    go_upto_region 1 with fail
    (try rw [HW1.out])
    have r1 := b1.cell
    refine Ord.wp_region [(0, 1), (1, 0), (2, 0), (3, 2), (4, 2), (5, 0), (6, 0), (7, 0), (8, 0), (9, 0)] (fun W' => Below W1.heap.size W1 W') (by kernel_rfl) (by kernel_rfl) (fun c a d v w h => by cases d <;> exact h) (Below.refl _ _).drew ?_
  all_goals
    go_wp2_with (first
      | ((with_reducible refine Ord.at_wild ?_); refine Ord.wild_load (ad := ⟨w.heap.size, 0, none⟩) (.agg #[.slice pa m.places.length pc, .slice la m.legs.length lc, .slice ha m.herds.length hc, .slice sa m.seen.length sc]) rfl rfl ?_ ?_; (focus (intro W hW; exact loadVar_blk agg_mob (b1.below hW b1.lt) rfl)); intro K hK)
      | (go_at_call 44; refine (HH.out _).mono ?_; rw [h1]; rintro e w2 ⟨rfl, hb2⟩; have hz2 := hb2.size; (try simp only [World.size_drew] at hz2); try have r2 := (b1.drew.below hb2 (by simpa using b1.lt)).cell)
      | (go_at_call 34; refine (HK.out _ _ (HBA.out _ (by (repeat (first | assumption | exact Below.refl _ _ | refine Below.drew ?_ | refine Below.alloc ?_ (by first | omega | (simp; done) | (simp; omega)) _ | refine Below.setCell ?_ (by first | omega | (simp; done) | (simp; omega)) _ | refine Below.trans ?_ (Below.mono (by assumption) (by first | omega | (simp; done) | (simp; omega)))))))).mono ?_; intro e w5 h5; obtain ⟨rfl, hb5⟩ := HKP.out _ _ _ h5; have hB5 : Below W1.heap.size W1 w5 := by (repeat (first | assumption | exact Below.refl _ _ | refine Below.drew ?_ | refine Below.alloc ?_ (by first | omega | (simp; done) | (simp; omega)) _ | refine Below.setCell ?_ (by first | omega | (simp; done) | (simp; omega)) _ | refine Below.trans ?_ (Below.mono (by assumption) (by first | omega | (simp; done) | (simp; omega))))))
      | (refine wpList_store_blk 31 (.tmp 4) (.tmp 18) agg_span rfl rfl rfl rfl (b6.below hB5 b6.lt) rfl rfl (by simp [Value.oneCell']) ?_; intro w8 h8)
      | ((with_reducible refine Ord.at_wild ?_); refine Ord.walk_skip rfl rfl (fun K hK => ?_)) | ((with_reducible refine Ord.at_eff ?_); refine Ord.walk_skip rfl rfl (fun K hK => ?_))
      | ((with_reducible refine Ord.at_calm ?_); refine Ord.calm_skip rfl ?_ (fun K hK => ?_); (focus (simp [Region.wanted, yielded]; done))) | with_reducible refine Ord.walk_calm rfl rfl (fun K hK => ?_) | ((with_reducible refine Ord.at_wild ?_); refine Ord.wild_fieldAddr rfl rfl (fun W => by simp [go_sem]; rfl) (fun K hK => ?_)) | ((with_reducible refine Ord.at_wild ?_); refine Ord.wild_move rfl rfl (fun K hK => ?_)) | ((with_reducible refine Ord.at_wild ?_); refine Ord.wild_nilCheck rfl rfl (fun K hK => ?_)) | with_reducible refine Ord.walk_eff rfl (by first | (simp; done) | assumption | (go_simp; done) | (repeat (first | assumption | exact Below.refl _ _ | refine Below.drew ?_ | refine Below.alloc ?_ (by first | omega | (simp; done) | (simp; omega)) _ | refine Below.setCell ?_ (by first | omega | (simp; done) | (simp; omega)) _ | refine Below.trans ?_ (Below.mono (by assumption) (by first | omega | (simp; done) | (simp; omega)))))) (fun K hK => ?_) | with_reducible refine Ord.at_fork ?_ ?_ | with_reducible refine Ord.walk_nil ?_ | (with_reducible refine Ord.next_of (by first | (simp; done) | (go_simp; done) | (repeat (first | assumption | exact Below.refl _ _ | refine Below.drew ?_ | refine Below.alloc ?_ (by first | omega | (simp; done) | (simp; omega)) _ | refine Below.setCell ?_ (by first | omega | (simp; done) | (simp; omega)) _ | refine Below.trans ?_ (Below.mono (by assumption) (by first | omega | (simp; done) | (simp; omega)))))) (fun _ => ?_)))
    have hc8 := h8.blk.cell
    refine bodyPost_ret (v := .tuple #[spv (0, 0), .int .i64 E]) ?_ rfl ⟨rfl, h8.below (HBA.out _ hB5) (by omega)⟩
    simp [results, Tryz.results11, go_sem, hc8]
set_option maxHeartbeats 40000000 in
set_option maxRecDepth 100000 in
theorem r_Safe_no {m : Mb} {A : Ma} {w : World} (i : Int) (hl : Mlen m) (hm : MbAt w m A) (hk : knownE m (herdB m i) ≠ 0) :
    Calls Tryz.prog 13 #[mv m A, .int .i64 i] w (Gives2 (.int .i64 0) (.int .i64 (knownE m (herdB m i))) w) := by
  have HH := Lib.hid (fun W => r_herd m A i (by have := hl.herds; unfold maxLen; omega) W)
  have HHB : Hid (∀ n, inB n 0 ((m.herds.length : Int) - 1) = herdB m n) := fun _ => rfl
  simp only [HHB.out] at HH
  have HK := Lib.hid (fun W vb (hb : Below w.heap.size w W) => r_known vb hl (hm.below hb))
  have HKP : Hid (∀ W e w', KnownPost m (herdB m i) W e w' → e = .returned (.tuple #[.slice none 0 0, .int .i64 (knownE m (herdB m i))]) ∧ Below W.heap.size W w') := fun W e w' h => by
    obtain ⟨v, rfl, h2, h3⟩ := h
    rw [if_neg hk] at h2
    subst h2
    exact ⟨rfl, h3⟩
  have hkz : (knownE m (herdB m i) == 0) = false := by simpa using hk
  generalize knownE m (herdB m i) = E at *
  clear hl hm hk
  rcases A with ⟨pa, pc, la, lc, ha, hc, sa, sc⟩
  unfold mv mcells at *
  simp only at *
  obtain ⟨W1, hW1⟩ : ∃ W1, w.alloc (.cells #[.slice pa m.places.length pc, .slice la m.legs.length lc, .slice ha m.herds.length hc, .slice sa m.seen.length sc] 27) = W1 := ⟨_, rfl⟩
  have b1 : Blk W1 w.heap.size #[.slice pa m.places.length pc, .slice la m.legs.length lc, .slice ha m.herds.length hc, .slice sa m.seen.length sc] 27 := by rw [← hW1]; exact Blk.new _ _ _
  have hB1 : Below w.heap.size w W1 := by rw [← hW1]; (repeat (first | assumption | exact Below.refl _ _ | refine Below.drew ?_ | refine Below.alloc ?_ (by first | omega | (simp; done) | (simp; omega)) _ | refine Below.setCell ?_ (by first | omega | (simp; done) | (simp; omega)) _ | refine Below.trans ?_ (Below.mono (by assumption) (by first | omega | (simp; done) | (simp; omega)))))
  have hBA : ∀ W, Below W1.heap.size W1 W → Below w.heap.size w W := fun W h => hB1.trans (h.mono hB1.size)
  have HBA := Lib.hid hBA
  have HW1 := Lib.hid hW1
  clear hBA hW1
  cases h1 : herdB m i
  all_goals
    rw [h1] at HKP
    go_enter Tryz.func13, Tryz.ntmps13
    go_upto_region 1 with fail
    (try rw [HW1.out])
    have r1 := b1.cell
    refine Ord.wp_region [(0, 1), (1, 0), (2, 0), (3, 2), (4, 2), (5, 0), (6, 0), (7, 0), (8, 0), (9, 0)] (fun W' => Below W1.heap.size W1 W') (by kernel_rfl) (by kernel_rfl) (fun c a d v w h => by cases d <;> exact h) (Below.refl _ _).drew ?_
  all_goals
    go_wp2_with (first
      | ((with_reducible refine Ord.at_wild ?_); refine Ord.wild_load (ad := ⟨w.heap.size, 0, none⟩) (.agg #[.slice pa m.places.length pc, .slice la m.legs.length lc, .slice ha m.herds.length hc, .slice sa m.seen.length sc]) rfl rfl ?_ ?_; (focus (intro W hW; exact loadVar_blk agg_mob (b1.below hW b1.lt) rfl)); intro K hK)
      | (go_at_call 44; refine (HH.out _).mono ?_; rw [h1]; rintro e w2 ⟨rfl, hb2⟩; have hz2 := hb2.size; (try simp only [World.size_drew] at hz2); try have r2 := (b1.drew.below hb2 (by simpa using b1.lt)).cell)
      | (go_at_call 34; refine (HK.out _ _ (HBA.out _ (by (repeat (first | assumption | exact Below.refl _ _ | refine Below.drew ?_ | refine Below.alloc ?_ (by first | omega | (simp; done) | (simp; omega)) _ | refine Below.setCell ?_ (by first | omega | (simp; done) | (simp; omega)) _ | refine Below.trans ?_ (Below.mono (by assumption) (by first | omega | (simp; done) | (simp; omega)))))))).mono ?_; intro e w5 h5; obtain ⟨rfl, hb5⟩ := HKP.out _ _ _ h5; have hB5 : Below W1.heap.size W1 w5 := by (repeat (first | assumption | exact Below.refl _ _ | refine Below.drew ?_ | refine Below.alloc ?_ (by first | omega | (simp; done) | (simp; omega)) _ | refine Below.setCell ?_ (by first | omega | (simp; done) | (simp; omega)) _ | refine Below.trans ?_ (Below.mono (by assumption) (by first | omega | (simp; done) | (simp; omega))))))
      | ((with_reducible refine Ord.at_wild ?_); refine Ord.walk_skip rfl rfl (fun K hK => ?_)) | ((with_reducible refine Ord.at_eff ?_); refine Ord.walk_skip rfl rfl (fun K hK => ?_))
      | ((with_reducible refine Ord.at_calm ?_); refine Ord.calm_skip rfl ?_ (fun K hK => ?_); (focus (simp [Region.wanted, yielded]; done))) | with_reducible refine Ord.walk_calm rfl rfl (fun K hK => ?_) | ((with_reducible refine Ord.at_wild ?_); refine Ord.wild_fieldAddr rfl rfl (fun W => by simp [go_sem]; rfl) (fun K hK => ?_)) | ((with_reducible refine Ord.at_wild ?_); refine Ord.wild_move rfl rfl (fun K hK => ?_)) | ((with_reducible refine Ord.at_wild ?_); refine Ord.wild_nilCheck rfl rfl (fun K hK => ?_)) | with_reducible refine Ord.walk_eff rfl (by first | (simp; done) | assumption | (go_simp; done) | (repeat (first | assumption | exact Below.refl _ _ | refine Below.drew ?_ | refine Below.alloc ?_ (by first | omega | (simp; done) | (simp; omega)) _ | refine Below.setCell ?_ (by first | omega | (simp; done) | (simp; omega)) _ | refine Below.trans ?_ (Below.mono (by assumption) (by first | omega | (simp; done) | (simp; omega)))))) (fun K hK => ?_) | with_reducible refine Ord.at_fork ?_ ?_ | with_reducible refine Ord.walk_nil ?_ | (with_reducible refine Ord.next_of (by first | (simp; done) | (go_simp; done) | (repeat (first | assumption | exact Below.refl _ _ | refine Below.drew ?_ | refine Below.alloc ?_ (by first | omega | (simp; done) | (simp; omega)) _ | refine Below.setCell ?_ (by first | omega | (simp; done) | (simp; omega)) _ | refine Below.trans ?_ (Below.mono (by assumption) (by first | omega | (simp; done) | (simp; omega)))))) (fun _ => ?_)))
    go_ret2
    exact ⟨rfl, HBA.out _ (by first | exact hB5 | (repeat (first | assumption | exact Below.refl _ _ | refine Below.drew ?_ | refine Below.alloc ?_ (by first | omega | (simp; done) | (simp; omega)) _ | refine Below.setCell ?_ (by first | omega | (simp; done) | (simp; omega)) _ | refine Below.trans ?_ (Below.mono (by assumption) (by first | omega | (simp; done) | (simp; omega))))))⟩
end Go.Proofs.YteeinehpneppnaaGreat
