/- Parts of a proof: MbM, MbN, MoB. -/
import Derived.Test.YteeinehpneppnaaW09
import Derived.Test.YteeinehpneppnaaW08
/- shearworksref01: There. -/
set_option linter.unusedVariables false
set_option linter.unusedSimpArgs false
namespace Go.Proofs.Yteeinehpneppnaa
open Go.RowKit Go.Proofs
attribute [local irreducible] Ord.walk
/-- Is a mob at the shed by a day in all truths; in some? -/
def byB (m : Mb) (d : Int) (h : Nat) (t : List Int × List Int) : Bool := decide (dayAt m t.1 t.2 h (shedN m) ≤ d)
def allT (m : Mb) (d : Int) (h : Nat) : Bool := (TM m).all (byB m d h)
def anyT (m : Mb) (d : Int) (h : Nat) : Bool := (TM m).any (byB m d h)
def sumSet (p : Nat → Bool) : Nat → Nat
  | 0 => 0
  | k + 1 => sumSet p k + if p k = true then 2 ^ k else 0
theorem sumSet_lt (p : Nat → Bool) : ∀ k, sumSet p k < 2 ^ k
  | 0 => by simp [sumSet]
  | k + 1 => by
    have := sumSet_lt p k
    simp only [sumSet, Nat.pow_succ]
    split <;> omega
def thereE (m : Mb) (d : Int) : Int × Int × Int := if knownE m (inB d 0 100) = 0 then ((sumSet (allT m d) m.herds.length : Nat), (sumSet (anyT m d) m.herds.length : Nat), 0) else (0, 0, knownE m (inB d 0 100))
set_option maxHeartbeats 40000000 in
set_option maxRecDepth 100000 in
theorem r_There_no {m : Mb} {A : Ma} {w : World} (d : Int) (hl : Mlen m) (hm : MbAt w m A) (hk : knownE m (inB d 0 100) ≠ 0) :
    Calls Try.prog 16 #[mv m A, .int .i64 d] w (Gives3 (.int .i64 0) (.int .i64 0) (.int .i64 (knownE m (inB d 0 100))) w) := by
  have HK := Lib.hid (fun W vb (hb : Below w.heap.size w W) => r_known vb hl (hm.below hb))
  have HKP : Hid (∀ W e w', KnownPost m (inB d 0 100) W e w' → e = .returned (.tuple #[.slice none 0 0, .int .i64 (knownE m (inB d 0 100))]) ∧ Below W.heap.size W w') := fun W e w' h => by
    obtain ⟨v, rfl, h2, h3⟩ := h
    rw [if_neg hk] at h2
    subst h2
    exact ⟨rfl, h3⟩
  have HD := Lib.hid (fun W => r_day d W)
  have b1 := Blk.new w (mcells m A) 27
  have hkz : (knownE m (inB d 0 100) == 0) = false := by simpa using hk
  generalize knownE m (inB d 0 100) = E at *
  generalize inB d 0 100 = D at *
  clear hl hm hk
  rcases A with ⟨pa, pc, la, lc, ha, hc, sa, sc⟩
  unfold mv mcells at *
  simp only at *
  have r1 := b1.cell
  go_enter Try.func16, Try.ntmps16
  go_wp2_with fail
  refine Ord.wp_region [(0, 1), (1, 0), (2, 2), (3, 2), (4, 0), (5, 0), (6, 0), (7, 0), (8, 0)] (fun W' => Below (w.heap.size + 1) (w.alloc (.cells #[.slice pa m.places.length pc, .slice la m.legs.length lc, .slice ha m.herds.length hc, .slice sa m.seen.length sc] 27)) W') (by kernel_rfl) (by kernel_rfl) (fun c a d v w h => by cases d <;> exact h) (Below.refl _ _).drew ?_
  have hBA : ∀ W, Below (w.heap.size + 1) (w.alloc (.cells #[.slice pa m.places.length pc, .slice la m.legs.length lc, .slice ha m.herds.length hc, .slice sa m.seen.length sc] 27)) W → Below w.heap.size w W := fun W h => ((Below.refl _ _).alloc (Nat.le_refl _) _).trans (h.mono (by omega))
  have HBA := Lib.hid hBA
  clear hBA
  go_wp2_with (first
    | ((with_reducible refine Ord.at_wild ?_); refine Ord.wild_load (ad := ⟨w.heap.size, 0, none⟩) (.agg #[.slice pa m.places.length pc, .slice la m.legs.length lc, .slice ha m.herds.length hc, .slice sa m.seen.length sc]) rfl rfl ?_ ?_; (focus (intro W hW; exact loadVar_blk agg_mob (b1.below hW (by omega)) rfl)); intro K hK)
    | (go_at_call 58; refine (HD.out _).mono ?_; rintro e w2 ⟨rfl, rfl⟩)
    | (go_at_call 50; refine (HK.out _ _ (HBA.out _ (by (repeat (first | assumption | exact Below.refl _ _ | refine Below.drew ?_ | refine Below.alloc ?_ (by first | omega | (simp; done) | (simp; omega)) _ | refine Below.setCell ?_ (by first | omega | (simp; done) | (simp; omega)) _ | refine Below.trans ?_ (Below.mono (by assumption) (by first | omega | (simp; done) | (simp; omega)))))))).mono ?_; intro e w5 h5; obtain ⟨rfl, hb5⟩ := HKP.out _ _ _ h5)
    | ((with_reducible refine Ord.at_calm ?_); refine Ord.calm_skip rfl ?_ (fun K hK => ?_); (focus (simp [Region.wanted, yielded]; done))) | with_reducible refine Ord.walk_calm rfl rfl (fun K hK => ?_) | ((with_reducible refine Ord.at_wild ?_); refine Ord.wild_fieldAddr rfl rfl (fun W => by simp [go_sem]; rfl) (fun K hK => ?_)) | ((with_reducible refine Ord.at_wild ?_); refine Ord.wild_move rfl rfl (fun K hK => ?_)) | ((with_reducible refine Ord.at_wild ?_); refine Ord.wild_nilCheck rfl rfl (fun K hK => ?_)) | with_reducible refine Ord.walk_eff rfl (by first | (simp; done) | assumption | (go_simp; done) | (repeat (first | assumption | exact Below.refl _ _ | refine Below.drew ?_ | refine Below.alloc ?_ (by first | omega | (simp; done) | (simp; omega)) _ | refine Below.setCell ?_ (by first | omega | (simp; done) | (simp; omega)) _ | refine Below.trans ?_ (Below.mono (by assumption) (by first | omega | (simp; done) | (simp; omega)))))) (fun K hK => ?_) | with_reducible refine Ord.at_fork ?_ ?_ | with_reducible refine Ord.walk_nil ?_ | (with_reducible refine Ord.next_of (by first | (simp; done) | (go_simp; done) | (repeat (first | assumption | exact Below.refl _ _ | refine Below.drew ?_ | refine Below.alloc ?_ (by first | omega | (simp; done) | (simp; omega)) _ | refine Below.setCell ?_ (by first | omega | (simp; done) | (simp; omega)) _ | refine Below.trans ?_ (Below.mono (by assumption) (by first | omega | (simp; done) | (simp; omega)))))) (fun _ => ?_)))
  go_ret3
  exact ⟨rfl, HBA.out _ (by (repeat (first | assumption | exact Below.refl _ _ | refine Below.drew ?_ | refine Below.alloc ?_ (by first | omega | (simp; done) | (simp; omega)) _ | refine Below.setCell ?_ (by first | omega | (simp; done) | (simp; omega)) _ | refine Below.trans ?_ (Below.mono (by assumption) (by first | omega | (simp; done) | (simp; omega))))))⟩
set_option maxHeartbeats 40000000 in
set_option maxRecDepth 100000 in
theorem r_There_yes {m : Mb} {A : Ma} {w : World} (d : Int) (hl : Mlen m) (hm : MbAt w m A) (hk : knownE m (inB d 0 100) = 0) :
    Calls Try.prog 16 #[mv m A, .int .i64 d] w (Gives3 (.int .i64 (sumSet (allT m d) m.herds.length : Nat)) (.int .i64 (sumSet (anyT m d) m.herds.length : Nat)) (.int .i64 0) w) := by
  obtain ⟨hv, hvb, hT0⟩ := known_yes hk
  have hlen := validM_len hv
  have hTl := TM_len hv
  have hsl : (m.places.length : Int) - 1 = (shedN m : Nat) := by unfold shedN; omega
  have HIn := Lib.hid (fun (t : List Int × List Int) (ht : t ∈ TM m) la lc da dc W (hb : Below w.heap.size w W) (hL : IntsM W la t.1) (hD : IntsM W da t.2) (h : Nat) (hh : h < m.herds.length) => r_In (A := A) (lc := lc) (dc := dc) (p := shedN m) hv (TM_mem ht) (hm.below hb) hL hD hh (by have := startN_eq hv hh; unfold shedN; omega) (by unfold shedN; omega) W (Below.refl _ _))
  have HK := Lib.hid (fun W vb (hb : Below w.heap.size w W) => r_known vb hl (hm.below hb))
  have HKP : Hid (∀ W e w', KnownPost m (inB d 0 100) W e w' → ∃ v, e = .returned (.tuple #[v, .int .i64 0]) ∧ TruthsAt w' v (TM m) ∧ Below W.heap.size W w') := fun W e w' h => by
    obtain ⟨v, rfl, h2, h3⟩ := h
    rw [if_pos hk] at h2
    rw [hk]
    exact ⟨v, rfl, h2, h3⟩
  have HD := Lib.hid (fun W => r_day d W)
  rw [hvb] at HKP HD
  obtain ⟨X1, hX1⟩ : ∃ X, sumSet (allT m d) m.herds.length = X := ⟨_, rfl⟩
  obtain ⟨X2, hX2⟩ : ∃ X, sumSet (anyT m d) m.herds.length = X := ⟨_, rfl⟩
  rw [hX1, hX2]
  have HX1 := Lib.hid hX1
  have HX2 := Lib.hid hX2
  have HA : Hid (∀ h, allT m d h = ((TM m).take (TM m).length).all (byB m d h)) := fun h => by rw [List.take_length]; rfl
  have HS : Hid (∀ h, anyT m d h = ((TM m).take (TM m).length).any (byB m d h)) := fun h => by rw [List.take_length]; rfl
  have b1 := Blk.new w (mcells m A) 27
  have HPw := Lib.hid (fun (n : Nat) (h : n ≤ 62) W => r_power0 n h W)
  clear hl hm hk hv hX1 hX2
  generalize TM m = T at *
  rcases A with ⟨pa, pc, la, lc, ha, hc, sa, sc⟩
  unfold mv mcells at *
  simp only at *
  have r1 := b1.cell
  have hh4 : (m.herds.length : Int) ≤ 4 := by omega
  go_enter Try.func16, Try.ntmps16
  go_wp2_with fail
  refine Ord.wp_region [(0, 1), (1, 0), (2, 2), (3, 2), (4, 0), (5, 0), (6, 0), (7, 0), (8, 0)] (fun W' => Below (w.heap.size + 1) (w.alloc (.cells #[.slice pa m.places.length pc, .slice la m.legs.length lc, .slice ha m.herds.length hc, .slice sa m.seen.length sc] 27)) W') (by kernel_rfl) (by kernel_rfl) (fun c a d v w h => by cases d <;> exact h) (Below.refl _ _).drew ?_
  have hBA : ∀ W, Below (w.heap.size + 1) (w.alloc (.cells #[.slice pa m.places.length pc, .slice la m.legs.length lc, .slice ha m.herds.length hc, .slice sa m.seen.length sc] 27)) W → Below w.heap.size w W := fun W h => ((Below.refl _ _).alloc (Nat.le_refl _) _).trans (h.mono (by omega))
  have HBA := Lib.hid hBA
  clear hBA
  go_wp2_with (first
    | ((with_reducible refine Ord.at_wild ?_); refine Ord.wild_load (ad := ⟨w.heap.size, 0, none⟩) (.agg #[.slice pa m.places.length pc, .slice la m.legs.length lc, .slice ha m.herds.length hc, .slice sa m.seen.length sc]) rfl rfl ?_ ?_; (focus (intro W hW; exact loadVar_blk agg_mob (b1.below hW (by omega)) rfl)); intro K hK)
    | (go_at_call 58; refine (HD.out _).mono ?_; rintro e w2 ⟨rfl, rfl⟩)
    | (go_at_call 50; refine (HK.out _ _ (HBA.out _ (by (repeat (first | assumption | exact Below.refl _ _ | refine Below.drew ?_ | refine Below.alloc ?_ (by first | omega | (simp; done) | (simp; omega)) _ | refine Below.setCell ?_ (by first | omega | (simp; done) | (simp; omega)) _ | refine Below.trans ?_ (Below.mono (by assumption) (by first | omega | (simp; done) | (simp; omega)))))))).mono ?_; intro e w5 h5; obtain ⟨v5, rfl, ht5, hb5⟩ := HKP.out _ _ _ h5; refine at_stop ?_)
    | ((with_reducible refine Ord.at_calm ?_); refine Ord.calm_skip rfl ?_ (fun K hK => ?_); (focus (simp [Region.wanted, yielded]; done))) | with_reducible refine Ord.walk_calm rfl rfl (fun K hK => ?_) | ((with_reducible refine Ord.at_wild ?_); refine Ord.wild_fieldAddr rfl rfl (fun W => by simp [go_sem]; rfl) (fun K hK => ?_)) | ((with_reducible refine Ord.at_wild ?_); refine Ord.wild_move rfl rfl (fun K hK => ?_)) | ((with_reducible refine Ord.at_wild ?_); refine Ord.wild_nilCheck rfl rfl (fun K hK => ?_)) | with_reducible refine Ord.walk_eff rfl (by first | (simp; done) | assumption | (go_simp; done) | (repeat (first | assumption | exact Below.refl _ _ | refine Below.drew ?_ | refine Below.alloc ?_ (by first | omega | (simp; done) | (simp; omega)) _ | refine Below.setCell ?_ (by first | omega | (simp; done) | (simp; omega)) _ | refine Below.trans ?_ (Below.mono (by assumption) (by first | omega | (simp; done) | (simp; omega)))))) (fun K hK => ?_) | with_reducible refine Ord.at_fork ?_ ?_ | with_reducible refine Ord.walk_nil ?_ | (with_reducible refine Ord.next_of (by first | (simp; done) | (go_simp; done) | (repeat (first | assumption | exact Below.refl _ _ | refine Below.drew ?_ | refine Below.alloc ?_ (by first | omega | (simp; done) | (simp; omega)) _ | refine Below.setCell ?_ (by first | omega | (simp; done) | (simp; omega)) _ | refine Below.trans ?_ (Below.mono (by assumption) (by first | omega | (simp; done) | (simp; omega)))))) (fun _ => ?_)))
  unfold Stop
  have hB15 : Below (w.heap.size + 1) (w.alloc (.cells #[.slice pa m.places.length pc, .slice la m.legs.length lc, .slice ha m.herds.length hc, .slice sa m.seen.length sc] 27)) w5 := by (repeat (first | assumption | exact Below.refl _ _ | refine Below.drew ?_ | refine Below.alloc ?_ (by first | omega | (simp; done) | (simp; omega)) _ | refine Below.setCell ?_ (by first | omega | (simp; done) | (simp; omega)) _ | refine Below.trans ?_ (Below.mono (by assumption) (by first | omega | (simp; done) | (simp; omega)))))
  have b15 := b1.below hB15 (by omega)
  have hBw5 := HBA.out _ hB15
  have hs5 := hB15.size
  (try simp only [World.size_alloc] at hs5)
  clear hb5 b1 r1 HK HKP HD HBA
  obtain ⟨ta, tc, rfl, -⟩ := id ht5
  go_wp2_with (first
    | ((with_reducible refine Ord.at_calm ?_); refine Ord.calm_skip rfl ?_ (fun K hK => ?_); (focus (simp [Region.wanted, yielded]; done))) | with_reducible refine Ord.walk_calm rfl rfl (fun K hK => ?_) | ((with_reducible refine Ord.at_wild ?_); refine Ord.wild_fieldAddr rfl rfl (fun W => by simp [go_sem]; rfl) (fun K hK => ?_)) | ((with_reducible refine Ord.at_wild ?_); refine Ord.wild_move rfl rfl (fun K hK => ?_)) | ((with_reducible refine Ord.at_wild ?_); refine Ord.wild_nilCheck rfl rfl (fun K hK => ?_)) | with_reducible refine Ord.walk_eff rfl (by first | (simp; done) | assumption | (go_simp; done) | (repeat (first | assumption | exact Below.refl _ _ | refine Below.drew ?_ | refine Below.alloc ?_ (by first | omega | (simp; done) | (simp; omega)) _ | refine Below.setCell ?_ (by first | omega | (simp; done) | (simp; omega)) _ | refine Below.trans ?_ (Below.mono (by assumption) (by first | omega | (simp; done) | (simp; omega)))))) (fun K hK => ?_) | with_reducible refine Ord.at_fork ?_ ?_ | with_reducible refine Ord.walk_nil ?_ | (with_reducible refine Ord.next_of (by first | (simp; done) | (go_simp; done) | (repeat (first | assumption | exact Below.refl _ _ | refine Below.drew ?_ | refine Below.alloc ?_ (by first | omega | (simp; done) | (simp; omega)) _ | refine Below.setCell ?_ (by first | omega | (simp; done) | (simp; omega)) _ | refine Below.trans ?_ (Below.mono (by assumption) (by first | omega | (simp; done) | (simp; omega)))))) (fun _ => ?_)))
  clear hB15
  have r15 := b15.cell
  go_loopw [9, 10, 11] (fun x y iv wr => ∃ h : Nat, h ≤ m.herds.length ∧ iv = .int .i64 (h : Int) ∧ x = .int .i64 ((sumSet (allT m d) h : Nat) : Int) ∧ y = .int .i64 ((sumSet (anyT m d) h : Nat) : Int) ∧ Below w5.heap.size w5 wr) (fun _ _ iv _ => m.herds.length - (intOf iv).toNat)
  case atStart => exact ⟨0, Nat.zero_le _, rfl, rfl, rfl, Below.refl _ _⟩
  case round =>
    obtain ⟨h, hh, rfl, rfl, rfl, hBr⟩ := hrel
    have br := b15.below hBr (by omega)
    have rr := br.cell
    have hBwr := hBw5.trans (hBr.mono (by omega))
    have htr := ht5.below hBr
    have hl1 := sumSet_lt (allT m d) h
    have hl2 := sumSet_lt (anyT m d) h
    by_cases hlt : h < m.herds.length
    · have hlti : (h : Int) < (m.herds.length : Int) := by omega
      have hp16 : 2 ^ h ≤ 8 := by
        have : 2 ^ h ≤ 2 ^ 3 := Nat.pow_le_pow_right (by omega) (by omega)
        simpa using this
      have hn1 : Hid (sumSet (allT m d) (h + 1) = sumSet (allT m d) h + if (T.take T.length).all (byB m d h) = true then 2 ^ h else 0) := by show _ = _; rw [← HA.out]; rfl
      have hn2 : Hid (sumSet (anyT m d) (h + 1) = sumSet (anyT m d) h + if (T.take T.length).any (byB m d h) = true then 2 ^ h else 0) := by show _ = _; rw [← HS.out]; rfl
      have HPh := Lib.hid (fun W => HPw.out h (by omega) W)
      obtain ⟨s1', hs1'⟩ : ∃ x, sumSet (allT m d) (h + 1) = x := ⟨_, rfl⟩
      obtain ⟨s2', hs2'⟩ : ∃ x, sumSet (anyT m d) (h + 1) = x := ⟨_, rfl⟩
      rw [hs1'] at hn1
      rw [hs2'] at hn2
      have HH1 := Lib.hid hs1'
      have HH2 := Lib.hid hs2'
      clear hs1' hs2'
      generalize sumSet (allT m d) h = s1 at *
      generalize sumSet (anyT m d) h = s2 at *
      obtain ⟨wo, hwo⟩ : ∃ wo, wo = wr := ⟨_, rfl⟩
      subst hwo
      go_wp2_with fail
      go_loopw [12, 13, 14] (fun x y iv wr => ∃ j : Nat, j ≤ T.length ∧ iv = .int .i64 (j : Int) ∧ x = .bool ((T.take j).all (byB m d h)) ∧ y = .bool ((T.take j).any (byB m d h)) ∧ Below wo.heap.size wo wr) (fun _ _ iv _ => T.length - (intOf iv).toNat)
      case atStart => exact ⟨0, Nat.zero_le _, rfl, by simp, by simp, Below.refl _ _⟩
      case round =>
        obtain ⟨j, hj, rfl, rfl, rfl, hBq⟩ := hrel
        have brs := hBr.size
        have bq := br.below hBq br.lt
        have rq := bq.cell
        have htq := htr.below hBq
        have hBwr := hBwr.trans (hBq.mono hBwr.size)
        have hqs := hBq.size
        by_cases hjt : j < T.length
        · have hjti : (j : Int) < (T.length : Int) := by omega
          obtain ⟨g, o, la', lc', da, dc, rfl, c1, c2, hL, hD⟩ := htq.get hjt
          have HSa : Hid ((T.take (j + 1)).all (byB m d h) = ((T.take j).all (byB m d h) && decide (dayAt m (T[j]).1 (T[j]).2 h (shedN m) ≤ d))) := by
            show _ = _; rw [List.take_succ_eq_append_getElem hjt, List.all_append]; simp [byB]
          have HSs : Hid ((T.take (j + 1)).any (byB m d h) = ((T.take j).any (byB m d h) || decide (dayAt m (T[j]).1 (T[j]).2 h (shedN m) ≤ d))) := by
            show _ = _; rw [List.take_succ_eq_append_getElem hjt, List.any_append]; simp [byB]
          have hI := fun W (hb : Below wr.heap.size wr W) => HIn.out (T[j]) (List.getElem_mem hjt) la' lc' da dc W (hBwr.trans (hb.mono hBwr.size)) (hL.below hb) (hD.below hb) h hlt
          have HI := Lib.hid hI
          have hgl := World.block_lt_of_cell? wr _ c1
          simp only at hgl
          clear hI hL hD htq htr HIn
          generalize (T.take j).all (byB m d h) = a1 at *
          generalize (T.take j).any (byB m d h) = a2 at *
          generalize T[j] = t at *
          obtain ⟨tL, tD⟩ := t
          simp only at *
          generalize dayAt m tL tD h (shedN m) = dy at *
          go_wp2_with fail
          refine Ord.wp_region [(0, 0), (1, 0), (2, 0), (3, 0), (4, 0), (5, 0), (6, 0), (7, 0), (8, 0), (9, 0), (11, 1), (10, 2), (12, 0), (13, 0)] (fun W' => Below wr.heap.size wr W') (by kernel_rfl) (by kernel_rfl) (fun c a d v w h => by cases d <;> exact h) (Below.refl _ _).drew ?_
          go_wp2_with (first
            | (refine wpList_load_blk 27 (.tmp 2) agg_mob rfl rfl rfl bq.drew rfl ?_)
            | (go_at_call 52; refine (HI.out _ (by (repeat (first | assumption | exact Below.refl _ _ | refine Below.drew ?_ | refine Below.alloc ?_ (by first | omega | (simp; done) | (simp; omega)) _ | refine Below.setCell ?_ (by first | omega | (simp; done) | (simp; omega)) _ | refine Below.trans ?_ (Below.mono (by assumption) (by first | omega | (simp; done) | (simp; omega))))))).mono ?_; rintro e w7 ⟨rfl, hb7⟩; have hz7 := hb7.size; (try simp only [World.size_drew] at hz7); refine at_stop ?_)
            | ((with_reducible refine Ord.at_calm ?_); refine Ord.calm_skip rfl ?_ (fun K hK => ?_); (focus (simp [Region.wanted, yielded]; done))) | with_reducible refine Ord.walk_calm rfl rfl (fun K hK => ?_) | ((with_reducible refine Ord.at_wild ?_); refine Ord.wild_fieldAddr rfl rfl (fun W => by simp [go_sem]; rfl) (fun K hK => ?_)) | ((with_reducible refine Ord.at_wild ?_); refine Ord.wild_move rfl rfl (fun K hK => ?_)) | ((with_reducible refine Ord.at_wild ?_); refine Ord.wild_nilCheck rfl rfl (fun K hK => ?_)) | with_reducible refine Ord.walk_eff rfl (by first | (simp; done) | assumption | (go_simp; done) | (repeat (first | assumption | exact Below.refl _ _ | refine Below.drew ?_ | refine Below.alloc ?_ (by first | omega | (simp; done) | (simp; omega)) _ | refine Below.setCell ?_ (by first | omega | (simp; done) | (simp; omega)) _ | refine Below.trans ?_ (Below.mono (by assumption) (by first | omega | (simp; done) | (simp; omega)))))) (fun K hK => ?_) | with_reducible refine Ord.at_fork ?_ ?_ | with_reducible refine Ord.walk_nil ?_ | (with_reducible refine Ord.next_of (by first | (simp; done) | (go_simp; done) | (repeat (first | assumption | exact Below.refl _ _ | refine Below.drew ?_ | refine Below.alloc ?_ (by first | omega | (simp; done) | (simp; omega)) _ | refine Below.setCell ?_ (by first | omega | (simp; done) | (simp; omega)) _ | refine Below.trans ?_ (Below.mono (by assumption) (by first | omega | (simp; done) | (simp; omega)))))) (fun _ => ?_)))
          unfold Stop
          have hb7w : Below wr.heap.size wr w7 := by (repeat (first | assumption | exact Below.refl _ _ | refine Below.drew ?_ | refine Below.alloc ?_ (by first | omega | (simp; done) | (simp; omega)) _ | refine Below.setCell ?_ (by first | omega | (simp; done) | (simp; omega)) _ | refine Below.trans ?_ (Below.mono (by assumption) (by first | omega | (simp; done) | (simp; omega)))))
          have hB7 : Below wo.heap.size wo w7 := hBq.trans (hb7w.mono hBq.size)
          by_cases hc : dy ≤ d
          all_goals
            cases a1 <;> cases a2
          all_goals
            go_wp2_with (first
              | ((with_reducible refine Ord.at_calm ?_); refine Ord.calm_skip rfl ?_ (fun K hK => ?_); (focus (simp [Region.wanted, yielded]; done))) | with_reducible refine Ord.walk_calm rfl rfl (fun K hK => ?_) | ((with_reducible refine Ord.at_wild ?_); refine Ord.wild_fieldAddr rfl rfl (fun W => by simp [go_sem]; rfl) (fun K hK => ?_)) | ((with_reducible refine Ord.at_wild ?_); refine Ord.wild_move rfl rfl (fun K hK => ?_)) | ((with_reducible refine Ord.at_wild ?_); refine Ord.wild_nilCheck rfl rfl (fun K hK => ?_)) | with_reducible refine Ord.walk_eff rfl (by first | (simp; done) | assumption | (go_simp; done) | (repeat (first | assumption | exact Below.refl _ _ | refine Below.drew ?_ | refine Below.alloc ?_ (by first | omega | (simp; done) | (simp; omega)) _ | refine Below.setCell ?_ (by first | omega | (simp; done) | (simp; omega)) _ | refine Below.trans ?_ (Below.mono (by assumption) (by first | omega | (simp; done) | (simp; omega)))))) (fun K hK => ?_) | with_reducible refine Ord.at_fork ?_ ?_ | with_reducible refine Ord.walk_nil ?_ | (with_reducible refine Ord.next_of (by first | (simp; done) | (go_simp; done) | (repeat (first | assumption | exact Below.refl _ _ | refine Below.drew ?_ | refine Below.alloc ?_ (by first | omega | (simp; done) | (simp; omega)) _ | refine Below.setCell ?_ (by first | omega | (simp; done) | (simp; omega)) _ | refine Below.trans ?_ (Below.mono (by assumption) (by first | omega | (simp; done) | (simp; omega)))))) (fun _ => ?_)))
          all_goals
            exact ⟨⟨j + 1, by omega, by go_num, by rw [HSa.out]; simp [hc], by rw [HSs.out]; simp [hc], hB7⟩, by simp [intOf]; omega⟩
        · have hjti : ¬ (j : Int) < (T.length : Int) := by omega
          obtain rfl : j = T.length := by omega
          have hBo := hBr.trans (hBq.mono hBr.size)
          have hl1i : (s1 : Int) < 16 := by
            have : 2 ^ h ≤ 2 ^ 4 := Nat.pow_le_pow_right (by omega) (by omega)
            omega
          have hl2i : (s2 : Int) < 16 := by
            have : 2 ^ h ≤ 2 ^ 4 := Nat.pow_le_pow_right (by omega) (by omega)
            omega
          clear HIn htq htr hl1 hl2
          generalize 2 ^ h = P at *
          generalize (T.take T.length).all (byB m d h) = a1 at *
          generalize (T.take T.length).any (byB m d h) = a2 at *
          cases a1 <;> cases a2
          all_goals
            go_wp2_with (go_at_call 59; refine (HPh.out _).mono ?_; rintro e w' ⟨rfl, rfl⟩)
          all_goals
            exact ⟨⟨h + 1, by omega, by go_num, by rw [HH1.out, hn1.out]; simp, by rw [HH2.out, hn2.out]; simp, hBo⟩, by simp [intOf]; omega⟩
    · have hlti : ¬ (h : Int) < (m.herds.length : Int) := by omega
      obtain rfl : h = m.herds.length := by omega
      go_wp2_with fail
      go_ret3
      exact ⟨by rw [← HX1.out, ← HX2.out]; rfl, hBwr⟩
theorem r_There {m : Mb} {A : Ma} {w : World} (d : Int) (hl : Mlen m) (hm : MbAt w m A) :
    Calls Try.prog 16 #[mv m A, .int .i64 d] w (Gives3 (.int .i64 (thereE m d).1) (.int .i64 (thereE m d).2.1) (.int .i64 (thereE m d).2.2) w) := by
  unfold thereE
  by_cases hk : knownE m (inB d 0 100) = 0
  · rw [if_pos hk]; exact r_There_yes d hl hm hk
  · rw [if_neg hk]; exact r_There_no d hl hm hk
end Go.Proofs.Yteeinehpneppnaa
/- shearworksref01: Clash. -/
set_option linter.unusedVariables false
set_option linter.unusedSimpArgs false
namespace Go.Proofs.Yteeinehpneppnaa
open Go.RowKit Go.Proofs
attribute [local irreducible] Ord.walk
/-- The best set behind some sets. -/
def bestTo (m : Mb) : Nat → Nat
  | 0 => everyN m
  | k + 1 => if sz k < sz (bestTo m k) ∧ (truthsM m k).length = 0 then k else bestTo m k
theorem bestTo_le (m : Mb) : ∀ k, k ≤ everyN m + 1 → bestTo m k ≤ everyN m
  | 0, _ => Nat.le_refl _
  | k + 1, h => by
    have := bestTo_le m k (by omega)
    simp only [bestTo]
    split <;> omega
def clashR (m : Mb) : Int × Int := if validM m = false then (0, 1) else if TM m = [] then ((bestTo m (everyN m + 1) : Nat), 0) else (0, 4)
set_option maxHeartbeats 40000000 in
set_option maxRecDepth 100000 in
theorem r_Clash_no {m : Mb} {A : Ma} {w : World} (hl : Mlen m) (hm : MbAt w m A) (hv : validM m = false) :
    Calls Try.prog 18 #[mv m A] w (Gives2 (.int .i64 0) (.int .i64 1) w) := by
  have HC := Lib.hid (fun W (hb : Below w.heap.size w W) => r_check true hl (hm.below hb))
  have hc : chkM m true = 1 := by unfold chkM; rw [if_pos hv]
  rw [hc] at HC
  have b1 := Blk.new w (mcells m A) 27
  have hB0 : Below w.heap.size w (w.alloc (.cells (mcells m A) 27)) := (Below.refl _ _).alloc (Nat.le_refl _) _
  clear hl hm hv hc
  rcases A with ⟨pa, pc, la, lc, ha, hc, sa, sc⟩
  unfold mv mcells at *
  simp only at *
  have r1 := b1.cell
  go_enter Try.func18, Try.ntmps18
  go_wp2_with (first
    | (refine wpList_load_blk 27 (.tmp 1) agg_mob rfl rfl rfl b1 rfl ?_)
    | (go_at_call 69; refine (HC.out _ hB0).mono ?_; rintro e w2 ⟨rfl, hb2⟩))
  go_ret2
  exact ⟨rfl, hB0.trans (hb2.mono (by simp))⟩
set_option maxHeartbeats 40000000 in
set_option maxRecDepth 100000 in
theorem r_Clash_none {m : Mb} {A : Ma} {w : World} (hl : Mlen m) (hm : MbAt w m A) (hv : validM m = true) (hT : TM m ≠ []) :
    Calls Try.prog 18 #[mv m A] w (Gives2 (.int .i64 0) (.int .i64 4) w) := by
  have HC := Lib.hid (fun W (hb : Below w.heap.size w W) => r_check true hl (hm.below hb))
  have hc : chkM m true = 0 := by unfold chkM; rw [if_neg (by rw [hv]; simp), if_neg (by simp)]
  rw [hc] at HC
  have HT := Lib.hid (fun W (hb : Below w.heap.size w W) => r_Truths hv (hm.below hb))
  have b1 := Blk.new w (mcells m A) 27
  have hB0 : Below w.heap.size w (w.alloc (.cells (mcells m A) 27)) := (Below.refl _ _).alloc (Nat.le_refl _) _
  have hTp : 0 < (TM m).length := List.length_pos_iff.2 hT
  clear hl hm hv hc hT
  generalize TM m = T at *
  rcases A with ⟨pa, pc, la, lc, ha, hc, sa, sc⟩
  unfold mv mcells at *
  simp only at *
  have r1 := b1.cell
  have hTpi : (0 : Int) < (T.length : Int) := by omega
  go_enter Try.func18, Try.ntmps18
  go_wp2_with (first
    | (refine wpList_load_blk 27 (.tmp 1) agg_mob rfl rfl rfl b1 rfl ?_)
    | (go_at_call 69; refine (HC.out _ hB0).mono ?_; rintro e w2 ⟨rfl, hb2⟩; refine at_stop ?_))
  unfold Stop
  have hB2 := hB0.trans (hb2.mono (by simp))
  have b2 := b1.below hb2 (by simp)
  clear hb2 r1
  go_wp2_with (first
    | (refine wpList_load_blk 27 (.tmp 1) agg_mob rfl rfl rfl b2 rfl ?_)
    | (go_at_call 70; refine (HT.out _ hB2).mono ?_; rintro e w3 ⟨v3, rfl, ht3, hb3⟩; obtain ⟨a3, c3, rfl, hrow⟩ := ht3; refine at_stop ?_))
  unfold Stop
  have hB3 := hB2.trans (hb3.mono hB2.size)
  clear hb3 hrow HT HC
  go_wp2_with fail
  go_ret2
  exact ⟨rfl, hB3⟩
set_option maxHeartbeats 40000000 in
set_option maxRecDepth 100000 in
theorem r_Clash_yes {m : Mb} {A : Ma} {w : World} (hl : Mlen m) (hm : MbAt w m A) (hv : validM m = true) (hT : TM m = []) :
    Calls Try.prog 18 #[mv m A] w (Gives2 (.int .i64 (bestTo m (everyN m + 1) : Nat)) (.int .i64 0) w) := by
  have hlen := validM_len hv
  have hE32 : everyN m < 32 := by
    unfold everyN
    have h1 : 2 ^ m.seen.length ≤ 2 ^ 5 := Nat.pow_le_pow_right (by omega) (by omega)
    have : (2 : Nat) ^ 5 = 32 := by decide
    have := Nat.two_pow_pos m.seen.length
    omega
  have HC := Lib.hid (fun W (hb : Below w.heap.size w W) => r_check true hl (hm.below hb))
  have hc : chkM m true = 0 := by unfold chkM; rw [if_neg (by rw [hv]; simp), if_neg (by simp)]
  rw [hc] at HC
  have HT := Lib.hid (fun W (hb : Below w.heap.size w W) => r_Truths hv (hm.below hb))
  rw [hT] at HT
  have HE := Lib.hid (fun W => r_every (A := A) (m := m) (by omega) W)
  have HTr := Lib.hid (fun (k : Nat) (hk : k < 32) W (hb : Below w.heap.size w W) => r_truths k hv (hm.below hb) (by omega))
  have HZ := Lib.hid (fun (k : Nat) (hk : k < 32) W => r_size0 k (by omega) W)
  have hszl : Hid (∀ k, (sz k : Int) ≤ 62) := fun k => by have := szN_le 62 k; unfold sz; omega
  have HBs : Hid (∀ k, bestTo m (k + 1) = if sz k < sz (bestTo m k) ∧ (truthsM m k).length = 0 then k else bestTo m k) := fun _ => rfl
  have HBl := Lib.hid (fun k h => bestTo_le m k h)
  have h00 : bestTo m 0 = everyN m := rfl
  obtain ⟨X, hX⟩ : ∃ X, bestTo m (everyN m + 1) = X := ⟨_, rfl⟩
  rw [hX]
  have HX := Lib.hid hX
  have H00 := Lib.hid h00
  have b1 := Blk.new w (mcells m A) 27
  have hB0 : Below w.heap.size w (w.alloc (.cells (mcells m A) 27)) := (Below.refl _ _).alloc (Nat.le_refl _) _
  clear hl hm hv hc hT hX h00
  generalize everyN m = E at *
  rcases A with ⟨pa, pc, la, lc, ha, hc, sa, sc⟩
  unfold mv mcells at *
  simp only at *
  have r1 := b1.cell
  go_enter Try.func18, Try.ntmps18
  go_wp2_with (first
    | (refine wpList_load_blk 27 (.tmp 1) agg_mob rfl rfl rfl b1 rfl ?_)
    | (go_at_call 69; refine (HC.out _ hB0).mono ?_; rintro e w2 ⟨rfl, hb2⟩; refine at_stop ?_))
  unfold Stop
  have hB2 := hB0.trans (hb2.mono (by simp))
  have b2 := b1.below hb2 (by simp)
  clear hb2 r1
  go_wp2_with (first
    | (refine wpList_load_blk 27 (.tmp 1) agg_mob rfl rfl rfl b2 rfl ?_)
    | (go_at_call 70; refine (HT.out _ hB2).mono ?_; rintro e w3 ⟨v3, rfl, ht3, hb3⟩; obtain ⟨a3, c3, rfl, hrow⟩ := ht3; refine at_stop ?_))
  unfold Stop
  have hB3 := hB2.trans (hb3.mono hB2.size)
  have b3 := b2.below hb3 b2.lt
  clear hb3 hrow HT HC b2
  (try simp only [List.length_nil])
  go_wp2_with (first
    | (refine wpList_load_blk 27 (.tmp 1) agg_mob rfl rfl rfl b3 rfl ?_)
    | (go_at_call 71; refine (HE.out _).mono ?_; rintro e w4 ⟨rfl, hb4⟩; refine at_stop ?_))
  unfold Stop
  have hB4 := hB3.trans (hb4.mono hB3.size)
  have b4 := b3.below hb4 b3.lt
  clear hb4 b3 hB3 hB2 hB0 b1
  go_wp2_with fail
  go_loopw [5, 6] (fun x iv wr => ∃ k : Nat, k ≤ E + 1 ∧ iv = .int .i64 (k : Int) ∧ x = .int .i64 ((bestTo m k : Nat) : Int) ∧ Below w4.heap.size w4 wr) (fun _ iv _ => E + 1 - (intOf iv).toNat)
  case atStart => exact ⟨0, Nat.zero_le _, rfl, by rw [H00.out], Below.refl _ _⟩
  case round =>
    obtain ⟨k, hk, rfl, rfl, hBr⟩ := hrel
    have br := b4.below hBr b4.lt
    have rr := br.cell
    have hBwr := hB4.trans (hBr.mono hB4.size)
    have hbl := HBl.out k hk
    have hb32 : (bestTo m k : Int) < 32 := by omega
    go_wp2_with (first
      | (refine wpList_load_blk 27 (.tmp 1) agg_mob rfl rfl rfl br rfl ?_)
      | (go_at_call 71; refine (HE.out _).mono ?_; rintro e w5 ⟨rfl, hb5⟩; refine at_stop ?_))
    unfold Stop
    have hB5 := hBwr.trans (hb5.mono hBwr.size)
    have b5 := br.below hb5 br.lt
    have hB45 := hBr.trans (hb5.mono hBr.size)
    clear hb5 rr
    by_cases hlt : k < E + 1
    · have hlti : (k : Int) ≤ (E : Int) := by omega
      have hk32 : k < 32 := by omega
      have HS := Lib.hid (HBs.out k)
      have hz1 := hszl.out k
      have hz2 := hszl.out (bestTo m k)
      have HTk := Lib.hid (fun W hb => HTr.out k hk32 W hb)
      have HZ1 := Lib.hid (fun (s : Nat) (hs : s = k ∨ s = bestTo m k) W => HZ.out s (by omega) W)
      obtain ⟨b', hb'⟩ : ∃ b', bestTo m (k + 1) = b' := ⟨_, rfl⟩
      rw [hb'] at HS
      have HB' := Lib.hid hb'
      clear hb'
      generalize bestTo m k = bk at *
      by_cases hc : sz k < sz bk
      · have hci : (sz k : Int) < (sz bk : Int) := by omega
        have r5 := b5.cell
        go_wp2_with (first
          | (go_at_call 38; refine at_stop ?_))
        unfold Stop
        refine (HZ1.out _ (by first | exact .inl rfl | exact .inr rfl) _).mono ?_; rintro e w' ⟨rfl, rfl⟩
        go_wp2_with (first
          | (go_at_call 38; refine at_stop ?_))
        unfold Stop
        refine (HZ1.out _ (by first | exact .inl rfl | exact .inr rfl) _).mono ?_; rintro e w' ⟨rfl, rfl⟩
        go_wp2_with (first
          | (go_at_call 72; refine at_stop ?_))
        unfold Stop
        refine (HTk.out _ hB5).mono ?_; rintro e w6 ⟨v6, rfl, ht6, hb6⟩; obtain ⟨a6, c6, rfl, hrow⟩ := ht6
        have hB6 := hB45.trans (hb6.mono hB45.size)
        clear hrow
        by_cases h0 : (truthsM m k).length = 0
        · rw [h0]
          have h2 := HS.out
          rw [if_pos ⟨hc, h0⟩] at h2
          have H2 := Lib.hid h2
          clear h2 HS h0
          go_wp2_with fail
          exact ⟨⟨k + 1, by omega, by go_num, by rw [HB'.out, H2.out], hB6⟩, by simp [intOf]; omega⟩
        · have h0i : (((truthsM m k).length : Int) == 0) = false := by simpa using h0
          have h2 := HS.out
          rw [if_neg (fun h => h0 h.2)] at h2
          have H2 := Lib.hid h2
          clear h2 HS h0
          generalize (truthsM m k).length = tl at *
          go_wp2_with fail
          exact ⟨⟨k + 1, by omega, by go_num, by rw [HB'.out, H2.out], hB6⟩, by simp [intOf]; omega⟩
      · have hci : ¬ (sz k : Int) < (sz bk : Int) := by omega
        have h2 := HS.out
        rw [if_neg (fun h => hc h.1)] at h2
        have H2 := Lib.hid h2
        clear h2 HS
        go_wp2_with (first
          | (go_at_call 38; refine at_stop ?_))
        unfold Stop
        refine (HZ1.out _ (by first | exact .inl rfl | exact .inr rfl) _).mono ?_; rintro e w' ⟨rfl, rfl⟩
        go_wp2_with (first
          | (go_at_call 38; refine at_stop ?_))
        unfold Stop
        refine (HZ1.out _ (by first | exact .inl rfl | exact .inr rfl) _).mono ?_; rintro e w' ⟨rfl, rfl⟩
        go_wp2_with fail
        exact ⟨⟨k + 1, by omega, by go_num, by rw [HB'.out, H2.out], hB45⟩, by simp [intOf]; omega⟩
    · have hlti : ¬ (k : Int) ≤ (E : Int) := by omega
      obtain rfl : k = E + 1 := by omega
      have e := HX.out
      clear HBl HBs HX
      generalize bestTo m (E + 1) = Y at *
      subst e
      go_wp2_with fail
      go_ret2
      exact ⟨rfl, hB5⟩
theorem r_Clash {m : Mb} {A : Ma} {w : World} (hl : Mlen m) (hm : MbAt w m A) :
    Calls Try.prog 18 #[mv m A] w (Gives2 (.int .i64 (clashR m).1) (.int .i64 (clashR m).2) w) := by
  unfold clashR
  cases hv : validM m
  · rw [if_pos rfl]; exact r_Clash_no hl hm hv
  · rw [if_neg (by simp)]
    by_cases hT : TM m = []
    · rw [if_pos hT]; exact r_Clash_yes hl hm hv hT
    · rw [if_neg hT]; exact r_Clash_none hl hm hv hT
end Go.Proofs.Yteeinehpneppnaa
/- Package mob: joined, days, comes, stretch. -/
set_option linter.unusedVariables false
set_option linter.unusedSimpArgs false
namespace Go.Proofs.Yteeinehpneppnaa
open Go.RowKit Go.Proofs
attribute [local irreducible] Ord.walk
/-- The least span of the first spans. -/
def joinTo (l : List (Int × Int)) : Nat → Int × Int
  | 0 => (0, 0)
  | k + 1 => let x := l.getD k (0, 0); if k = 0 then x else (min (joinTo l k).1 x.1, max (joinTo l k).2 x.2)
def joinL (l : List (Int × Int)) : Int × Int := joinTo l l.length
set_option maxHeartbeats 40000000 in
set_option maxRecDepth 100000 in
theorem m_joined (l : List (Int × Int)) (a : Option Addr) (c : Nat) (w : World) (hl : l.length ≤ 1000000) (hr : RowsAt w a 2 spc l) :
    Calls Try.prog 97 #[.slice a l.length c] w (Gives (spv (joinL l)) w) := by
  have HJ : Hid (∀ k, joinTo l (k + 1) = if k = 0 then l.getD k (0, 0) else (min (joinTo l k).1 (l.getD k (0, 0)).1, max (joinTo l k).2 (l.getD k (0, 0)).2)) := fun _ => rfl
  have HE : Hid (joinL l = joinTo l l.length) := rfl
  have HZ : Hid (joinTo l 0 = (0, 0)) := rfl
  have hli : (l.length : Int) ≤ 1000000 := by omega
  generalize joinL l = R at *
  go_enter Try.func97, Try.ntmps97
  go_wp2_with fail
  obtain ⟨W1, hW1⟩ : ∃ W1, W1 = w.alloc (.cells #[.int .i64 0, .int .i64 0] 39) := ⟨_, rfl⟩
  have hB1 : Below w.heap.size w W1 := by rw [hW1]; exact (Below.refl _ _).alloc (Nat.le_refl _) _
  have b1 : Blk W1 w.heap.size #[.int .i64 (joinTo l 0).1, .int .i64 (joinTo l 0).2] 39 := by rw [hW1]; exact Blk.new _ _ _
  rw [← hW1]
  have hs1 : W1.heap.size = w.heap.size + 1 := by rw [hW1]; simp
  clear hW1
  generalize hz0 : w.heap.size = z0 at *
  have HZ0 := Lib.hid hz0
  clear hz0
  go_loopw [7] (fun i wr => ∃ k : Nat, k ≤ l.length ∧ i = .int .i64 k ∧ Below z0 W1 wr ∧ Blk wr z0 #[.int .i64 (joinTo l k).1, .int .i64 (joinTo l k).2] 39) (fun i _ => l.length - (intOf i).toNat)
  case atStart => exact ⟨0, Nat.zero_le _, rfl, Below.refl _ _, b1⟩
  case round =>
    clear b1
    obtain ⟨k, hk, rfl, hBr, br⟩ := hrel
    have hBw := hB1.trans hBr
    have hsr := hBr.size
    have rr := br.cell
    by_cases hlt : k < l.length
    · obtain ⟨gb, go, rfl, e1, e2⟩ := hr.get2 hlt
      have hgb : gb < z0 := by have h := World.block_lt_of_cell? w _ e1; rw [HZ0.out] at h; exact h
      have i1 := (hBw.cell (p := ⟨gb, go + k * 2, none⟩) hgb).trans e1
      have i2 := (hBw.cell (p := ⟨gb, go + k * 2 + 1, none⟩) hgb).trans e2
      have hlti : (k : Int) < l.length := by omega
      have HJk := Lib.hid (HJ.out k)
      have hge : l.getD k (0, 0) = l[k] := by rw [List.getD_eq_getElem?_getD, List.getElem?_eq_getElem hlt]; rfl
      rw [hge] at HJk
      generalize l[k] = x at *
      obtain ⟨x1, x2⟩ := x
      simp only at *
      clear e1 e2 hge HJ
      generalize joinTo l k = J at *
      obtain ⟨j1, j2⟩ := J
      simp only at *
      have hn : (wr.alloc (.cells #[.int .i64 0, .int .i64 0] 39)).heap.size = wr.heap.size + 1 := by simp
      have hbz : z0 < wr.heap.size := br.lt
      by_cases h0 : k = 0
      · have hk0 : ((k : Int) == 0) = true := by simp [h0]
        rw [if_pos h0] at HJk
        clear h0
        go_wp2_with (first
          | (refine wpList_store_blk 39 (.tmp 4) (.tmp 11) agg_span rfl rfl rfl rfl (Blk.new _ _ _) rfl rfl (by simp [Value.oneCell']) ?_; intro w5 h5; have c5 := h5.cell; have f5 := h5.free; have z5 := h5.size)
          | (refine wpList_store_blk 39 (.tmp 2) (.tmp 14) agg_span rfl rfl rfl rfl (h5.other (br.alloc _) (by omega)) rfl rfl (by simp [Value.oneCell']) ?_; intro w6 h6; have c6 := h6.cell; have f6 := h6.free; have z6 := h6.size)
          | (refine wpList_store_blk 39 (.tmp 2) (.tmp 25) agg_span rfl rfl rfl rfl (h6.blk) rfl rfl (by simp [Value.oneCell']) ?_; intro w7 h7; have c7 := h7.cell; have f7 := h7.free; have z7 := h7.size))
        refine ⟨⟨k + 1, by omega, by go_num, ?_, ?_⟩, by simp [intOf]; omega⟩
        · exact h7.below (h6.below (h5.below (hBr.alloc (by omega) _) (by omega)) (Nat.le_refl _)) (Nat.le_refl _)
        · have := h7.blk
          rw [HJk.out]
          have e1 : (if x1 < x1 then x1 else x1) = x1 := by split <;> rfl
          simpa using this
      · have hk0 : ((k : Int) == 0) = false := by simp; omega
        rw [if_neg h0] at HJk
        go_wp2_with (first
          | (refine wpList_store_blk 39 (.tmp 4) (.tmp 11) agg_span rfl rfl rfl rfl (Blk.new _ _ _) rfl rfl (by simp [Value.oneCell']) ?_; intro w5 h5; have c5 := h5.cell; have f5 := h5.free; have z5 := h5.size)
          | (refine wpList_store_blk 39 (.tmp 2) (.tmp 25) agg_span rfl rfl rfl rfl (h5.other (br.alloc _) (by omega)) rfl rfl (by simp [Value.oneCell']) ?_; intro w7 h7; have c7 := h7.cell; have f7 := h7.free; have z7 := h7.size))
        refine ⟨⟨k + 1, by omega, by go_num, ?_, ?_⟩, by simp [intOf]; omega⟩
        · exact h7.below (h5.below (hBr.alloc (by omega) _) (by omega)) (Nat.le_refl _)
        · have := h7.blk
          rw [HJk.out]
          have e1 : min j1 x1 = if x1 < j1 then x1 else j1 := by split <;> omega
          have e2 : max j2 x2 = if j2 < x2 then x2 else j2 := by split <;> omega
          simp only [e1, e2]
          exact this
    · have hlti : ¬ (k : Int) < l.length := by omega
      have e : k = l.length := by omega
      subst e
      rw [← HE.out] at br rr
      have br' := br
      go_wp2_with (first
        | (refine wpList_store_blk 39 (.tmp 2) (.tmp 27) agg_span rfl rfl rfl rfl br rfl rfl (by simp [Value.oneCell']) ?_; intro w6 h6))
      refine bodyPost_ret (v := spv R) (results_cell_blk rfl _ agg_span rfl h6.blk rfl) rfl ⟨rfl, ?_⟩
      rw [HZ0.out]
      exact h6.below hBw (Nat.le_refl _)
end Go.Proofs.Yteeinehpneppnaa
