/- shearworksref01: In of all places, right. -/
import Derived.Test.YteeinehpneppnaaGreatMbD
set_option linter.unusedVariables false
set_option linter.unusedSimpArgs false
namespace Go.Proofs.YteeinehpneppnaaGreat
open Go.RowKit Go.Proofs
attribute [local irreducible] Ord.walk
def startN (m : Mb) (h : Nat) : Nat := (startI m h).toNat
/-- On which day a mob comes to a place. -/
def dayAt (m : Mb) (L D : List Int) (h p : Nat) : Int := inK m L (startN m h) (D.getD h 0) (p - startN m h)
theorem startN_eq {m : Mb} (hv : validM m = true) {h : Nat} (hh : h < m.herds.length) : (m.herds[h]).1 = (startN m h : Int) ∧ startN m h + 2 ≤ m.places.length := by
  have h1 := validM_herd hv hh
  rw [List.getD_eq_getElem?_getD, List.getElem?_eq_getElem hh, Option.getD_some] at h1
  have h2 : startI m h = (m.herds[h]).1 := by unfold startI; simp [hh]
  unfold startN
  rw [h2]
  omega
theorem dayAt_in {m : Mb} (hv : validM m = true) {L D : List Int} (ht : TrOk m L D) (h p : Nat) (hp : p < m.places.length) : 0 ≤ dayAt m L D h p ∧ dayAt m L D h p ≤ 100 := by
  have hd := day_in hv ht h
  have h1 := inK_in hv ht (startN m h) hd.1 hd.2 (p - startN m h)
  have := validM_len hv
  unfold dayAt
  omega
theorem r_In {m : Mb} {A : Ma} {L D : List Int} {la : Option Addr} {lc : Nat} {da : Option Addr} {dc : Nat} {h p : Nat} {w : World} (hv : validM m = true) (ht : TrOk m L D) (hm : MbAt w m A) (hL : IntsM w la L) (hD : IntsM w da D) (hh : h < m.herds.length) (h1 : startN m h ≤ p) (h2 : p < m.places.length) :
    ∀ W, Below w.heap.size w W → Calls Tryz.prog 36 #[mv m A, tv L D la lc da dc, .int .i64 h, .int .i64 p] W (Gives (.int .i64 (dayAt m L D h p)) W) := by
  intro W hb
  have := in_all (lc := lc) (dc := dc) hv ht hm hL hD hh (startN_eq hv hh).1 (p - startN m h) (by omega) W hb
  rwa [show startN m h + (p - startN m h) = p by omega] at this
/-- Is this right that was seen? -/
def seenB (m : Mb) (L D : List Int) (s : Int × Int × Int × Int) : Bool := inB (dayAt m L D s.1.toNat s.2.1.toNat) s.2.2.1 s.2.2.2
def rightTo (m : Mb) (L D : List Int) (set : Nat) (k : Nat) : Bool := (List.range k).all fun i => !hasB set i || seenB m L D (m.seen.getD i (0, 0, 0, 0))
def rightM (m : Mb) (L D : List Int) (set : Nat) : Bool := rightTo m L D set m.seen.length
theorem rightTo_succ (m : Mb) (L D : List Int) (set k : Nat) : rightTo m L D set (k + 1) = (rightTo m L D set k && (!hasB set k || seenB m L D (m.seen.getD k (0, 0, 0, 0)))) := by
  unfold rightTo; rw [List.range_succ, List.all_append]; simp
theorem rightTo_no {m : Mb} {L D : List Int} {set k n : Nat} (hk : k < n) (h : (!hasB set k || seenB m L D (m.seen.getD k (0, 0, 0, 0))) = false) : rightTo m L D set n = false := by
  unfold rightTo
  rw [List.all_eq_false]
  exact ⟨k, List.mem_range.2 hk, by rw [h]; simp⟩
theorem validM_seen {m : Mb} (h : validM m = true) {i : Nat} (hi : i < m.seen.length) : 0 ≤ (m.seen[i]).1 ∧ (m.seen[i]).1 < m.herds.length ∧ 0 ≤ (m.seen[i]).2.1 ∧ (m.seen[i]).2.1 < m.places.length ∧ startI m (m.seen[i]).1 ≤ (m.seen[i]).2.1 ∧ 0 ≤ (m.seen[i]).2.2.1 ∧ (m.seen[i]).2.2.1 ≤ (m.seen[i]).2.2.2 ∧ (m.seen[i]).2.2.2 ≤ 100 := by
  unfold validM at h
  simp only [Bool.and_eq_true] at h
  have h1 := List.all_eq_true.1 h.2.2.2.2 _ (List.getElem_mem hi)
  simp only [snOk, fromB, Bool.and_eq_true, decide_eq_true_eq] at h1
  have h2 := inB_of h1.1.1
  have h3 := inB_of h1.1.2.1
  have h4 := h1.2
  simp only [spanM, decide_eq_true_eq] at h4
  have h5 := h1.1.2.2
  omega
set_option maxHeartbeats 40000000 in
set_option maxRecDepth 100000 in
theorem r_right {m : Mb} {A : Ma} {L D : List Int} {la : Option Addr} {lc : Nat} {da : Option Addr} {dc : Nat} (set : Nat) {w : World} (hv : validM m = true) (ht : TrOk m L D) (hm : MbAt w m A) (hL : IntsM w la L) (hD : IntsM w da D) (hset : set < 2 ^ 62) :
    Calls Tryz.prog 99 #[mv m A, tv L D la lc da dc, .int .i64 set] w (Gives (.bool (rightM m L D set)) w) := by
  have HIn := Lib.hid (fun h p (hh : h < m.herds.length) (h1 : startN m h ≤ p) (h2 : p < m.places.length) => r_In (lc := lc) (dc := dc) hv ht hm hL hD hh h1 h2)
  have HH := Lib.hid (fun (i : Nat) (hi : i ≤ 62) W => r_has0 set i hset hi W)
  have HI := Lib.hid (fun a b c W => r_in a b c W)
  have HSn := Lib.hid (fun (i : Nat) (hi : i < m.seen.length) => validM_seen hv hi)
  have HSt := Lib.hid (fun (h : Nat) (hh : h < m.herds.length) => startN_eq hv hh)
  have HSi : Hid (∀ h : Nat, startN m h = (startI m h).toNat) := fun _ => rfl
  have hl := validM_len hv
  have hse := hm.seen
  have HR : Hid (rightM m L D set = rightTo m L D set m.seen.length) := rfl
  have hs5 : (m.seen.length : Int) ≤ 5 := by omega
  generalize rightM m L D set = R at *
  clear hv ht hm hL hD hset
  rcases A with ⟨pa, pc, la', lc', ha, hc, sa, sc⟩
  unfold mv mcells tv at *
  simp only at *
  go_enter Tryz.func99, Tryz.ntmps99
  go_wp2_with fail
  obtain ⟨W1, hW1⟩ : ∃ W1, W1 = ((w.alloc (.cells #[.slice pa m.places.length pc, .slice la' m.legs.length lc', .slice ha m.herds.length hc, .slice sa m.seen.length sc] 27)).alloc (.cells #[.slice la L.length lc, .slice da D.length dc] 75)) := ⟨_, rfl⟩
  have hB1 : Below w.heap.size w W1 := by rw [hW1]; exact ((Below.refl _ _).alloc (Nat.le_refl _) _).alloc (by first | omega | (simp; done) | (simp; omega)) _
  have bm : Blk W1 w.heap.size #[.slice pa m.places.length pc, .slice la' m.legs.length lc', .slice ha m.herds.length hc, .slice sa m.seen.length sc] 27 := by rw [hW1]; exact (Blk.new _ _ _).alloc _
  have bt : Blk W1 (w.heap.size + 1) #[.slice la L.length lc, .slice da D.length dc] 75 := by rw [hW1]; exact Blk.new' _ _ _ _ (by simp)
  have hz : W1.heap.size = w.heap.size + 1 + 1 := by rw [hW1]; simp
  rw [← hW1]
  clear hW1
  generalize hz0 : w.heap.size = z0 at *
  have HZ0 := Lib.hid hz0
  clear hz0
  go_loopw [7] (fun i wr => ∃ k : Nat, k ≤ m.seen.length ∧ i = .int .i64 k ∧ Hid (rightTo m L D set k = true) ∧ Below W1.heap.size W1 wr) (fun i _ => m.seen.length - (intOf i).toNat)
  case atStart => exact ⟨0, Nat.zero_le _, rfl, rfl, Below.refl _ _⟩
  case round =>
    obtain ⟨k, hk, rfl, hall, hBr⟩ := hrel
    have bmr := bm.below hBr bm.lt
    have btr := bt.below hBr bt.lt
    have hBw := hB1.trans (hBr.mono (by omega))
    have rm := bmr.cell
    have hsr := hBr.size
    by_cases hlt : k < m.seen.length
    · obtain ⟨gb, go, rfl, e1, e2, e3, e4⟩ := hse.get4 hlt
      have hgb : gb < z0 := by have h := World.block_lt_of_cell? w _ e1; rw [HZ0.out] at h; exact h
      have i1 := (hBw.cell (p := ⟨gb, go + k * 4, none⟩) hgb).trans e1
      have i2 := (hBw.cell (p := ⟨gb, go + k * 4 + 1, none⟩) hgb).trans e2
      have i3 := (hBw.cell (p := ⟨gb, go + k * 4 + 2, none⟩) hgb).trans e3
      have i4 := (hBw.cell (p := ⟨gb, go + k * 4 + 3, none⟩) hgb).trans e4
      have hlti : (k : Int) < m.seen.length := by omega
      have hsn := HSn.out k hlt
      have HT := Lib.hid (rightTo_succ m L D set k)
      have HN := Lib.hid (fun h => rightTo_no (m := m) (L := L) (D := D) (set := set) hlt h)
      have hge : m.seen.getD k (0, 0, 0, 0) = m.seen[k] := by rw [List.getD_eq_getElem?_getD, List.getElem?_eq_getElem hlt]; rfl
      rw [hge] at HT HN
      generalize m.seen[k] = x at *
      obtain ⟨x1, x2, x3, x4⟩ := x
      simp only at *
      obtain ⟨h, rfl⟩ : ∃ h : Nat, x1 = (h : Int) := ⟨x1.toNat, by omega⟩
      obtain ⟨p, rfl⟩ : ∃ p : Nat, x2 = (p : Int) := ⟨x2.toNat, by omega⟩
      have HHk := Lib.hid (fun W => HH.out k (by omega) W)
      have HInk := Lib.hid (HIn.out h p (by omega) (by rw [HSi.out]; omega) (by omega))
      have HB : Hid (seenB m L D ((h : Int), (p : Int), x3, x4) = inB (dayAt m L D h p) x3 x4) := rfl
      clear e1 e2 e3 e4 hge HIn HSn HSt hsn
      generalize dayAt m L D h p = dy at *
      generalize seenB m L D ((h : Int), (p : Int), x3, x4) = sb at *
      go_wp2_with fail
      obtain ⟨W2, hW2⟩ : ∃ W2, W2 = wr.alloc (.cells #[.int .i64 (h : Int), .int .i64 (p : Int), .int .i64 x3, .int .i64 x4] 98) := ⟨_, rfl⟩
      have hB2 : Below wr.heap.size wr W2 := by rw [hW2]; exact (Below.refl _ _).alloc (Nat.le_refl _) _
      have b8 : Blk W2 wr.heap.size #[.int .i64 (h : Int), .int .i64 (p : Int), .int .i64 x3, .int .i64 x4] 98 := by rw [hW2]; exact Blk.new _ _ _
      have bm2 := bmr.below hB2 bmr.lt
      have bt2 := btr.below hB2 btr.lt
      have hz2 : W2.heap.size = wr.heap.size + 1 := by rw [hW2]; simp
      have hBx := hBw.trans (hB2.mono (by omega))
      rw [← hW2]
      clear hW2 i1 i2 i3 i4 rm
      have r8 := b8.cell
      have rm2 := bm2.cell
      have rt2 := bt2.cell
      refine Ord.wp_region [(0, 0), (1, 0), (2, 2), (3, 0), (4, 0), (5, 0), (6, 0), (7, 0), (8, 0), (9, 0), (11, 1), (12, 1), (13, 1), (14, 1), (15, 1), (16, 1), (10, 2), (17, 2), (18, 0), (19, 0)] (fun W' => Below (wr.heap.size + 1) W2 W') (by kernel_rfl) (by kernel_rfl) (fun c a d v w h => by cases d <;> exact h) (Below.refl _ _).drew ?_
      cases hb : hasB set k
      · rw [hb] at HHk HT
        go_wp2_with (first
          | (go_at_call 47; refine (HHk.out _).mono ?_; rintro e w' ⟨rfl, rfl⟩)
          | ((with_reducible refine Ord.at_wild ?_); refine Ord.walk_skip rfl rfl (fun K hK => ?_)) | ((with_reducible refine Ord.at_eff ?_); refine Ord.walk_skip rfl rfl (fun K hK => ?_))
          | ((with_reducible refine Ord.at_calm ?_); refine Ord.calm_skip rfl ?_ (fun K hK => ?_); (focus (simp [Region.wanted, yielded]; done))) | with_reducible refine Ord.walk_calm rfl rfl (fun K hK => ?_) | ((with_reducible refine Ord.at_wild ?_); refine Ord.wild_fieldAddr rfl rfl (fun W => by simp [go_sem]; rfl) (fun K hK => ?_)) | ((with_reducible refine Ord.at_wild ?_); refine Ord.wild_move rfl rfl (fun K hK => ?_)) | ((with_reducible refine Ord.at_wild ?_); refine Ord.wild_nilCheck rfl rfl (fun K hK => ?_)) | with_reducible refine Ord.walk_eff rfl (by first | (simp; done) | assumption | (go_simp; done) | (repeat (first | assumption | exact Below.refl _ _ | refine Below.drew ?_ | refine Below.alloc ?_ (by first | omega | (simp; done) | (simp; omega)) _ | refine Below.setCell ?_ (by first | omega | (simp; done) | (simp; omega)) _ | refine Below.trans ?_ (Below.mono (by assumption) (by first | omega | (simp; done) | (simp; omega)))))) (fun K hK => ?_) | with_reducible refine Ord.at_fork ?_ ?_ | with_reducible refine Ord.walk_nil ?_ | (with_reducible refine Ord.next_of (by first | (simp; done) | (go_simp; done) | (repeat (first | assumption | exact Below.refl _ _ | refine Below.drew ?_ | refine Below.alloc ?_ (by first | omega | (simp; done) | (simp; omega)) _ | refine Below.setCell ?_ (by first | omega | (simp; done) | (simp; omega)) _ | refine Below.trans ?_ (Below.mono (by assumption) (by first | omega | (simp; done) | (simp; omega)))))) (fun _ => ?_)))
        exact ⟨⟨k + 1, by omega, by go_num, by show _ = _; rw [HT.out, hall.out]; rfl, (hBr.trans (hB2.mono hsr)).drew⟩, by simp [intOf]; omega⟩
      · rw [hb] at HHk HT HN
        go_wp2_with (first
            | (go_at_call 47; refine (HHk.out _).mono ?_; rintro e w' ⟨rfl, rfl⟩)
            | (go_at_call 36; refine (HInk.out _ hBx.drew).mono ?_; rintro e w3 ⟨rfl, hb3⟩; refine at_stop ?_)
            | ((with_reducible refine Ord.at_wild ?_); refine Ord.wild_load (ad := ⟨wr.heap.size, 2, none⟩) (.int .i64 x3) rfl rfl ?_ ?_; (focus (intro W hW; obtain ⟨cW, _, zW⟩ := below_rules hW rfl; simp [go_sem, cW, ↓IntWalk.iteOmega, r8]; done)); intro K hK)
            | ((with_reducible refine Ord.at_wild ?_); refine Ord.wild_load (ad := ⟨wr.heap.size, 3, none⟩) (.int .i64 x4) rfl rfl ?_ ?_; (focus (intro W hW; obtain ⟨cW, _, zW⟩ := below_rules hW rfl; simp [go_sem, cW, ↓IntWalk.iteOmega, r8]; done)); intro K hK)
            | ((with_reducible refine Ord.at_calm ?_); refine Ord.calm_skip rfl ?_ (fun K hK => ?_); (focus (simp [Region.wanted, yielded]; done))) | with_reducible refine Ord.walk_calm rfl rfl (fun K hK => ?_) | ((with_reducible refine Ord.at_wild ?_); refine Ord.wild_fieldAddr rfl rfl (fun W => by simp [go_sem]; rfl) (fun K hK => ?_)) | ((with_reducible refine Ord.at_wild ?_); refine Ord.wild_move rfl rfl (fun K hK => ?_)) | ((with_reducible refine Ord.at_wild ?_); refine Ord.wild_nilCheck rfl rfl (fun K hK => ?_)) | with_reducible refine Ord.walk_eff rfl (by first | (simp; done) | assumption | (go_simp; done) | (repeat (first | assumption | exact Below.refl _ _ | refine Below.drew ?_ | refine Below.alloc ?_ (by first | omega | (simp; done) | (simp; omega)) _ | refine Below.setCell ?_ (by first | omega | (simp; done) | (simp; omega)) _ | refine Below.trans ?_ (Below.mono (by assumption) (by first | omega | (simp; done) | (simp; omega)))))) (fun K hK => ?_) | with_reducible refine Ord.at_fork ?_ ?_ | with_reducible refine Ord.walk_nil ?_ | (with_reducible refine Ord.next_of (by first | (simp; done) | (go_simp; done) | (repeat (first | assumption | exact Below.refl _ _ | refine Below.drew ?_ | refine Below.alloc ?_ (by first | omega | (simp; done) | (simp; omega)) _ | refine Below.setCell ?_ (by first | omega | (simp; done) | (simp; omega)) _ | refine Below.trans ?_ (Below.mono (by assumption) (by first | omega | (simp; done) | (simp; omega)))))) (fun _ => ?_)))
        unfold Stop
        have hB3 : Below (wr.heap.size + 1) W2 w3 := (Below.refl _ _).drew.trans (hb3.mono (by simp [hz2]))
        have hBy := hBx.trans (hB3.mono (by have := bmr.lt; omega))
        clear hb3 r8 rm2 rt2
        cases c1 : inB dy x3 x4
        · rw [c1] at HB
          go_wp2_with (first
            | (go_at_call 56; refine (HI.out _ _ _ _).mono ?_; rw [c1]; rintro e w' ⟨rfl, rfl⟩)
            | ((with_reducible refine Ord.at_calm ?_); refine Ord.calm_skip rfl ?_ (fun K hK => ?_); (focus (simp [Region.wanted, yielded]; done))) | with_reducible refine Ord.walk_calm rfl rfl (fun K hK => ?_) | ((with_reducible refine Ord.at_wild ?_); refine Ord.wild_fieldAddr rfl rfl (fun W => by simp [go_sem]; rfl) (fun K hK => ?_)) | ((with_reducible refine Ord.at_wild ?_); refine Ord.wild_move rfl rfl (fun K hK => ?_)) | ((with_reducible refine Ord.at_wild ?_); refine Ord.wild_nilCheck rfl rfl (fun K hK => ?_)) | with_reducible refine Ord.walk_eff rfl (by first | (simp; done) | assumption | (go_simp; done) | (repeat (first | assumption | exact Below.refl _ _ | refine Below.drew ?_ | refine Below.alloc ?_ (by first | omega | (simp; done) | (simp; omega)) _ | refine Below.setCell ?_ (by first | omega | (simp; done) | (simp; omega)) _ | refine Below.trans ?_ (Below.mono (by assumption) (by first | omega | (simp; done) | (simp; omega)))))) (fun K hK => ?_) | with_reducible refine Ord.at_fork ?_ ?_ | with_reducible refine Ord.walk_nil ?_ | (with_reducible refine Ord.next_of (by first | (simp; done) | (go_simp; done) | (repeat (first | assumption | exact Below.refl _ _ | refine Below.drew ?_ | refine Below.alloc ?_ (by first | omega | (simp; done) | (simp; omega)) _ | refine Below.setCell ?_ (by first | omega | (simp; done) | (simp; omega)) _ | refine Below.trans ?_ (Below.mono (by assumption) (by first | omega | (simp; done) | (simp; omega)))))) (fun _ => ?_)))
          go_ret
          refine ⟨ret_bool ?_, by rw [HZ0.out]; exact hBy⟩
          rw [HR.out, HN.out (by rw [HB.out]; rfl)]
        · rw [c1] at HB
          go_wp2_with (first
            | (go_at_call 56; refine (HI.out _ _ _ _).mono ?_; rw [c1]; rintro e w' ⟨rfl, rfl⟩)
            | ((with_reducible refine Ord.at_calm ?_); refine Ord.calm_skip rfl ?_ (fun K hK => ?_); (focus (simp [Region.wanted, yielded]; done))) | with_reducible refine Ord.walk_calm rfl rfl (fun K hK => ?_) | ((with_reducible refine Ord.at_wild ?_); refine Ord.wild_fieldAddr rfl rfl (fun W => by simp [go_sem]; rfl) (fun K hK => ?_)) | ((with_reducible refine Ord.at_wild ?_); refine Ord.wild_move rfl rfl (fun K hK => ?_)) | ((with_reducible refine Ord.at_wild ?_); refine Ord.wild_nilCheck rfl rfl (fun K hK => ?_)) | with_reducible refine Ord.walk_eff rfl (by first | (simp; done) | assumption | (go_simp; done) | (repeat (first | assumption | exact Below.refl _ _ | refine Below.drew ?_ | refine Below.alloc ?_ (by first | omega | (simp; done) | (simp; omega)) _ | refine Below.setCell ?_ (by first | omega | (simp; done) | (simp; omega)) _ | refine Below.trans ?_ (Below.mono (by assumption) (by first | omega | (simp; done) | (simp; omega)))))) (fun K hK => ?_) | with_reducible refine Ord.at_fork ?_ ?_ | with_reducible refine Ord.walk_nil ?_ | (with_reducible refine Ord.next_of (by first | (simp; done) | (go_simp; done) | (repeat (first | assumption | exact Below.refl _ _ | refine Below.drew ?_ | refine Below.alloc ?_ (by first | omega | (simp; done) | (simp; omega)) _ | refine Below.setCell ?_ (by first | omega | (simp; done) | (simp; omega)) _ | refine Below.trans ?_ (Below.mono (by assumption) (by first | omega | (simp; done) | (simp; omega)))))) (fun _ => ?_)))
          exact ⟨⟨k + 1, by omega, by go_num, by show _ = _; rw [HT.out, hall.out, HB.out]; rfl, (hBr.trans (hB2.mono hsr)).trans (hB3.mono (by omega))⟩, by simp [intOf]; omega⟩
    · have hlti : ¬ (k : Int) < (m.seen.length : Int) := by omega
      have e : k = m.seen.length := by omega
      subst e
      have e : R = true := by rw [HR.out]; exact hall.out
      clear HR
      subst e
      go_wp2_with fail
      go_ret
      exact ⟨rfl, by rw [HZ0.out]; exact hBw⟩
end Go.Proofs.YteeinehpneppnaaGreat
