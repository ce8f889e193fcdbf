/- Parts of a proof: MbK, MbL. -/
import Derived.Test.YteeinehpneppnaaW08
/- shearworksref01: Ahead. -/
set_option linter.unusedVariables false
set_option linter.unusedSimpArgs false
namespace Go.Proofs.Yteeinehpneppnaa
open Go.RowKit Go.Proofs
attribute [local irreducible] Ord.walk
def shedN (m : Mb) : Nat := m.places.length - 1
def aheadN (m : Mb) (i k : Nat) : Nat := (TM m).countP fun t => decide (dayAt m t.1 t.2 i (shedN m) < dayAt m t.1 t.2 k (shedN m))
def gradeM (n all : Nat) : Int := if n = all then 2 else if n = 0 then 0 else 1
def aheadR (m : Mb) (i k : Int) : Int × Int := if knownE m (herdB m i && herdB m k) = 0 then (gradeM (aheadN m i.toNat k.toNat) (TM m).length, 0) else (0, knownE m (herdB m i && herdB m k))
set_option maxHeartbeats 40000000 in
set_option maxRecDepth 100000 in
theorem r_Ahead_no {m : Mb} {A : Ma} {w : World} (i k : Int) (hl : Mlen m) (hm : MbAt w m A) (hk : knownE m (herdB m i && herdB m k) ≠ 0) :
    Calls Try.prog 14 #[mv m A, .int .i64 i, .int .i64 k] w (Gives2 (.int .i64 0) (.int .i64 (knownE m (herdB m i && herdB m k))) w) := by
  have HH := Lib.hid (fun n W => r_herd m A n (by have := hl.herds; unfold maxLen; omega) W)
  have HK := Lib.hid (fun W vb (hb : Below w.heap.size w W) => r_known vb hl (hm.below hb))
  have HKP : Hid (∀ W e w', KnownPost m (herdB m i && herdB m k) W e w' → e = .returned (.tuple #[.slice none 0 0, .int .i64 (knownE m (herdB m i && herdB m k))]) ∧ Below W.heap.size W w') := fun W e w' h => by
    obtain ⟨v, rfl, h2, h3⟩ := h
    rw [if_neg hk] at h2
    subst h2
    exact ⟨rfl, h3⟩
  have HB : Hid (∀ n, inB n 0 ((m.herds.length : Int) - 1) = herdB m n) := fun _ => rfl
  have hB0 : Below w.heap.size w (w.alloc (.cells (mcells m A) 27)).drew := ((Below.refl _ _).alloc (Nat.le_refl _) _).drew
  have b1 := Blk.new w (mcells m A) 27
  have hkz : (knownE m (herdB m i && herdB m k) == 0) = false := by simpa using hk
  generalize knownE m (herdB m i && herdB m k) = E at *
  simp only [HB.out] at HH
  clear hl hm hk
  rcases A with ⟨pa, pc, la, lc, ha, hc, sa, sc⟩
  unfold mv mcells at *
  simp only at *
  have r1 := b1.cell
  cases h1 : herdB m i <;> cases h2 : herdB m k
  all_goals
    rw [h1, h2] at HKP
    go_enter Try.func14, Try.ntmps14
    go_wp2_with fail
    refine Ord.wp_region [(0, 1), (1, 0), (2, 0), (3, 2), (4, 0), (5, 0), (6, 0), (7, 2), (8, 0), (9, 2), (10, 0), (11, 0), (12, 0), (13, 0), (14, 0)] (fun W' => Below (w.heap.size + 1) (w.alloc (.cells #[.slice pa m.places.length pc, .slice la m.legs.length lc, .slice ha m.herds.length hc, .slice sa m.seen.length sc] 27)) W') (by kernel_rfl) (by kernel_rfl) (fun c a d v w h => by cases d <;> exact h) (Below.refl _ _).drew ?_
  all_goals
    have hBA : ∀ W, Below (w.heap.size + 1) (w.alloc (.cells #[.slice pa m.places.length pc, .slice la m.legs.length lc, .slice ha m.herds.length hc, .slice sa m.seen.length sc] 27)) W → Below w.heap.size w W := fun W h => ((Below.refl _ _).alloc (Nat.le_refl _) _).trans (h.mono (by omega))
    have HBA := Lib.hid hBA
    clear hBA
    go_wp2_with (first
      | ((with_reducible refine Ord.at_wild ?_); refine Ord.wild_load (ad := ⟨w.heap.size, 0, none⟩) (.agg #[.slice pa m.places.length pc, .slice la m.legs.length lc, .slice ha m.herds.length hc, .slice sa m.seen.length sc]) rfl rfl ?_ ?_; (focus (intro W hW; exact loadVar_blk agg_mob (b1.below hW (by omega)) rfl)); intro K hK)
      | (go_at_call 51; refine (HH.out _ _).mono ?_; (first | rw [h1] | rw [h2]); rintro e w2 ⟨rfl, hb2⟩; have hz2 := hb2.size; (try simp only [World.size_drew, World.size_alloc] at hz2); try have r2 := (b1.drew.below hb2 (by simp)).cell)
      | (go_at_call 50; refine (HK.out _ _ (HBA.out _ (by (repeat (first | assumption | exact Below.refl _ _ | refine Below.drew ?_ | refine Below.alloc ?_ (by first | omega | (simp; done) | (simp; omega)) _ | refine Below.setCell ?_ (by first | omega | (simp; done) | (simp; omega)) _ | refine Below.trans ?_ (Below.mono (by assumption) (by first | omega | (simp; done) | (simp; omega)))))))).mono ?_; intro e w5 h5; obtain ⟨rfl, hb5⟩ := HKP.out _ _ _ h5)
      | ((with_reducible refine Ord.at_wild ?_); refine Ord.walk_skip rfl rfl (fun K hK => ?_)) | ((with_reducible refine Ord.at_eff ?_); refine Ord.walk_skip rfl rfl (fun K hK => ?_))
      | ((with_reducible refine Ord.at_calm ?_); refine Ord.calm_skip rfl ?_ (fun K hK => ?_); (focus (simp [Region.wanted, yielded]; done))) | with_reducible refine Ord.walk_calm rfl rfl (fun K hK => ?_) | ((with_reducible refine Ord.at_wild ?_); refine Ord.wild_fieldAddr rfl rfl (fun W => by simp [go_sem]; rfl) (fun K hK => ?_)) | ((with_reducible refine Ord.at_wild ?_); refine Ord.wild_move rfl rfl (fun K hK => ?_)) | ((with_reducible refine Ord.at_wild ?_); refine Ord.wild_nilCheck rfl rfl (fun K hK => ?_)) | with_reducible refine Ord.walk_eff rfl (by first | (simp; done) | assumption | (go_simp; done) | (repeat (first | assumption | exact Below.refl _ _ | refine Below.drew ?_ | refine Below.alloc ?_ (by first | omega | (simp; done) | (simp; omega)) _ | refine Below.setCell ?_ (by first | omega | (simp; done) | (simp; omega)) _ | refine Below.trans ?_ (Below.mono (by assumption) (by first | omega | (simp; done) | (simp; omega)))))) (fun K hK => ?_) | with_reducible refine Ord.at_fork ?_ ?_ | with_reducible refine Ord.walk_nil ?_ | (with_reducible refine Ord.next_of (by first | (simp; done) | (go_simp; done) | (repeat (first | assumption | exact Below.refl _ _ | refine Below.drew ?_ | refine Below.alloc ?_ (by first | omega | (simp; done) | (simp; omega)) _ | refine Below.setCell ?_ (by first | omega | (simp; done) | (simp; omega)) _ | refine Below.trans ?_ (Below.mono (by assumption) (by first | omega | (simp; done) | (simp; omega)))))) (fun _ => ?_)))
    go_ret2
    exact ⟨rfl, HBA.out _ (by (repeat (first | assumption | exact Below.refl _ _ | refine Below.drew ?_ | refine Below.alloc ?_ (by first | omega | (simp; done) | (simp; omega)) _ | refine Below.setCell ?_ (by first | omega | (simp; done) | (simp; omega)) _ | refine Below.trans ?_ (Below.mono (by assumption) (by first | omega | (simp; done) | (simp; omega))))))⟩
end Go.Proofs.Yteeinehpneppnaa
/- shearworksref01: Ahead, where there is a truth. -/
set_option linter.unusedVariables false
set_option linter.unusedSimpArgs false
namespace Go.Proofs.Yteeinehpneppnaa
open Go.RowKit Go.Proofs
attribute [local irreducible] Ord.walk
theorem TruthsAt.below {w w' : World} {v : Value} {T : List (List Int × List Int)} (h : TruthsAt w v T) (hb : Below w.heap.size w w') : TruthsAt w' v T := by
  obtain ⟨a, c, rfl, hr⟩ := h
  refine ⟨a, c, rfl, fun i hi => ?_⟩
  obtain ⟨g, o, y, z, e, h1, h2, h3, h4⟩ := hr i hi
  exact ⟨g, o, y, z, e, cell_later hb h1, cell_later hb h2, h3.keep (KeepT.of_below hb : KeepT 0 50 w w') (by decide), h4.keep (KeepT.of_below hb : KeepT 0 50 w w') (by decide)⟩
theorem TM_mem {m : Mb} {t : List Int × List Int} (h : t ∈ TM m) : TrOk m t.1 t.2 := by
  unfold TM truthsM at h
  obtain ⟨L, hL, h2⟩ := List.mem_flatMap.1 h
  obtain ⟨D, hD, rfl⟩ := List.mem_map.1 h2
  exact trOk_of hL (List.mem_filter.1 hD).1
theorem TM_len {m : Mb} (hv : validM m = true) : (TM m).length ≤ 70000 := by
  have h1 := legs_len hv
  have h2 := leaves_len hv
  have h3 := tO_len (fun L D => rightM m L D (everyN m)) (prodL m.legs) (prodL (leavesL m)) (prodL m.legs).length
  rw [tO_all] at h3
  have h4 := Nat.mul_le_mul h1 h2
  unfold TM truthsM
  omega
/-- What a call of known yields where there is a truth. -/
theorem known_yes {m : Mb} {vb : Bool} (h : knownE m vb = 0) : validM m = true ∧ vb = true ∧ TM m ≠ [] := by
  unfold knownE at h
  cases hv : validM m
  · rw [hv] at h; simp at h
  · cases vb
    · rw [hv] at h; simp at h
    · refine ⟨rfl, rfl, fun e => ?_⟩
      rw [hv, e] at h; simp at h
theorem count_take {α : Type} (l : List α) (p : α → Bool) (k : Nat) (hk : k < l.length) : (l.take (k + 1)).countP p = (l.take k).countP p + (if p l[k] then 1 else 0) := by
  rw [List.take_succ_eq_append_getElem hk, List.countP_append]
  simp
theorem TruthsAt.get {w : World} {a : Option Addr} {n c : Nat} {T : List (List Int × List Int)} (h : TruthsAt w (.slice a n c) T) {k : Nat} (hk : k < T.length) :
    ∃ g o la lc da dc, a = some ⟨g, o, none⟩ ∧ w.cell? ⟨g, o + k * 2, none⟩ = some (.slice la (T[k]).1.length lc) ∧ w.cell? ⟨g, o + k * 2 + 1, none⟩ = some (.slice da (T[k]).2.length dc) ∧ IntsM w la (T[k]).1 ∧ IntsM w da (T[k]).2 := by
  obtain ⟨a', c', e, hr⟩ := h
  cases e
  obtain ⟨g, o, y, z, e1, h1, h2, h3, h4⟩ := hr k hk
  obtain ⟨la, lc, rfl, k3⟩ := h3.ints
  obtain ⟨da, dc, rfl, k4⟩ := h4.ints
  exact ⟨g, o, la, lc, da, dc, e1, h1, h2, k3, k4⟩
set_option maxHeartbeats 40000000 in
set_option maxRecDepth 100000 in
theorem r_Ahead_yes {m : Mb} {A : Ma} {w : World} (i k : Nat) (hl : Mlen m) (hm : MbAt w m A) (hk : knownE m (herdB m i && herdB m k) = 0) :
    Calls Try.prog 14 #[mv m A, .int .i64 i, .int .i64 k] w (Gives2 (.int .i64 (gradeM (aheadN m i k) (TM m).length)) (.int .i64 0) w) := by
  obtain ⟨hv, hvb, hT0⟩ := known_yes hk
  rw [Bool.and_eq_true] at hvb
  obtain ⟨h1, h2⟩ := hvb
  obtain ⟨G, hG⟩ : ∃ G, gradeM (aheadN m i k) (TM m).length = G := ⟨_, rfl⟩
  rw [hG]
  have HG := Lib.hid hG
  clear hG
  have hlen := validM_len hv
  have hi := inB_of h1
  have hki := inB_of h2
  have hTl := TM_len hv
  have HIn := Lib.hid (fun (t : List Int × List Int) (ht : t ∈ TM m) la lc da dc W (hb : Below w.heap.size w W) (hL : IntsM W la t.1) (hD : IntsM W da t.2) (h : Nat) (hh : h < m.herds.length) => r_In (A := A) (lc := lc) (dc := dc) (p := shedN m) hv (TM_mem ht) (hm.below hb) hL hD hh (by have := startN_eq hv hh; unfold shedN; omega) (by unfold shedN; omega) W (Below.refl _ _))
  have HH := Lib.hid (fun n W => r_herd m A n (by have := hl.herds; unfold maxLen; omega) W)
  have HK := Lib.hid (fun W vb (hb : Below w.heap.size w W) => r_known vb hl (hm.below hb))
  have HKP : Hid (∀ W e w', KnownPost m (herdB m i && herdB m k) W e w' → ∃ v, e = .returned (.tuple #[v, .int .i64 0]) ∧ TruthsAt w' v (TM m) ∧ Below W.heap.size W w') := fun W e w' h => by
    obtain ⟨v, rfl, h2, h3⟩ := h
    rw [if_pos hk] at h2
    rw [hk]
    exact ⟨v, rfl, h2, h3⟩
  have HB : Hid (∀ n, inB n 0 ((m.herds.length : Int) - 1) = herdB m n) := fun _ => rfl
  rw [h1, h2] at HKP
  have b1 := Blk.new w (mcells m A) 27
  simp only [HB.out] at HH
  clear hl hm hk hv
  generalize hTT : TM m = T at *
  have HTT := Lib.hid hTT
  clear hTT
  rcases A with ⟨pa, pc, la, lc, ha, hc, sa, sc⟩
  unfold mv mcells at *
  simp only at *
  have r1 := b1.cell
  go_enter Try.func14, Try.ntmps14
  go_wp2_with fail
  refine Ord.wp_region [(0, 1), (1, 0), (2, 0), (3, 2), (4, 0), (5, 0), (6, 0), (7, 2), (8, 0), (9, 2), (10, 0), (11, 0), (12, 0), (13, 0), (14, 0)] (fun W' => Below (w.heap.size + 1) (w.alloc (.cells #[.slice pa m.places.length pc, .slice la m.legs.length lc, .slice ha m.herds.length hc, .slice sa m.seen.length sc] 27)) W') (by kernel_rfl) (by kernel_rfl) (fun c a d v w h => by cases d <;> exact h) (Below.refl _ _).drew ?_
  have hBA : ∀ W, Below (w.heap.size + 1) (w.alloc (.cells #[.slice pa m.places.length pc, .slice la m.legs.length lc, .slice ha m.herds.length hc, .slice sa m.seen.length sc] 27)) W → Below w.heap.size w W := fun W h => ((Below.refl _ _).alloc (Nat.le_refl _) _).trans (h.mono (by omega))
  have HBA := Lib.hid hBA
  clear hBA
  go_wp2_with (first
    | ((with_reducible refine Ord.at_wild ?_); refine Ord.wild_load (ad := ⟨w.heap.size, 0, none⟩) (.agg #[.slice pa m.places.length pc, .slice la m.legs.length lc, .slice ha m.herds.length hc, .slice sa m.seen.length sc]) rfl rfl ?_ ?_; (focus (intro W hW; exact loadVar_blk agg_mob (b1.below hW (by omega)) rfl)); intro K hK)
    | (go_at_call 51; refine (HH.out _ _).mono ?_; (first | rw [h1] | rw [h2]); rintro e w2 ⟨rfl, hb2⟩; have hz2 := hb2.size; (try simp only [World.size_drew, World.size_alloc] at hz2); try have r2 := (b1.drew.below hb2 (by simp)).cell)
    | (go_at_call 50; refine (HK.out _ _ (HBA.out _ (by (repeat (first | assumption | exact Below.refl _ _ | refine Below.drew ?_ | refine Below.alloc ?_ (by first | omega | (simp; done) | (simp; omega)) _ | refine Below.setCell ?_ (by first | omega | (simp; done) | (simp; omega)) _ | refine Below.trans ?_ (Below.mono (by assumption) (by first | omega | (simp; done) | (simp; omega)))))))).mono ?_; intro e w5 h5; obtain ⟨v5, rfl, ht5, hb5⟩ := HKP.out _ _ _ h5; refine at_stop ?_)
    | ((with_reducible refine Ord.at_wild ?_); refine Ord.walk_skip rfl rfl (fun K hK => ?_)) | ((with_reducible refine Ord.at_eff ?_); refine Ord.walk_skip rfl rfl (fun K hK => ?_))
    | ((with_reducible refine Ord.at_calm ?_); refine Ord.calm_skip rfl ?_ (fun K hK => ?_); (focus (simp [Region.wanted, yielded]; done))) | with_reducible refine Ord.walk_calm rfl rfl (fun K hK => ?_) | ((with_reducible refine Ord.at_wild ?_); refine Ord.wild_fieldAddr rfl rfl (fun W => by simp [go_sem]; rfl) (fun K hK => ?_)) | ((with_reducible refine Ord.at_wild ?_); refine Ord.wild_move rfl rfl (fun K hK => ?_)) | ((with_reducible refine Ord.at_wild ?_); refine Ord.wild_nilCheck rfl rfl (fun K hK => ?_)) | with_reducible refine Ord.walk_eff rfl (by first | (simp; done) | assumption | (go_simp; done) | (repeat (first | assumption | exact Below.refl _ _ | refine Below.drew ?_ | refine Below.alloc ?_ (by first | omega | (simp; done) | (simp; omega)) _ | refine Below.setCell ?_ (by first | omega | (simp; done) | (simp; omega)) _ | refine Below.trans ?_ (Below.mono (by assumption) (by first | omega | (simp; done) | (simp; omega)))))) (fun K hK => ?_) | with_reducible refine Ord.at_fork ?_ ?_ | with_reducible refine Ord.walk_nil ?_ | (with_reducible refine Ord.next_of (by first | (simp; done) | (go_simp; done) | (repeat (first | assumption | exact Below.refl _ _ | refine Below.drew ?_ | refine Below.alloc ?_ (by first | omega | (simp; done) | (simp; omega)) _ | refine Below.setCell ?_ (by first | omega | (simp; done) | (simp; omega)) _ | refine Below.trans ?_ (Below.mono (by assumption) (by first | omega | (simp; done) | (simp; omega)))))) (fun _ => ?_)))
  unfold Stop
  have hB15 : Below (w.heap.size + 1) (w.alloc (.cells #[.slice pa m.places.length pc, .slice la m.legs.length lc, .slice ha m.herds.length hc, .slice sa m.seen.length sc] 27)) w5 := by (repeat (first | assumption | exact Below.refl _ _ | refine Below.drew ?_ | refine Below.alloc ?_ (by first | omega | (simp; done) | (simp; omega)) _ | refine Below.setCell ?_ (by first | omega | (simp; done) | (simp; omega)) _ | refine Below.trans ?_ (Below.mono (by assumption) (by first | omega | (simp; done) | (simp; omega)))))
  have b15 := b1.below hB15 (by omega)
  have hBw5 := HBA.out _ hB15
  have hs5 := hB15.size
  (try simp only [World.size_alloc] at hs5)
  clear hb5 b1 r1 HK HKP HH HBA
  obtain ⟨ta, tc, rfl, -⟩ := id ht5
  have r15 := b15.cell
  have hsh : Hid ((shedN m : Nat) = m.places.length - 1) := rfl
  have hsi : (m.places.length : Int) - 1 = (shedN m : Nat) := by have := hsh.out; omega
  have hpl6 : (m.places.length : Int) ≤ 6 := by omega
  go_wp2_with (first
    | ((with_reducible refine Ord.at_wild ?_); refine Ord.walk_skip rfl rfl (fun K hK => ?_)) | ((with_reducible refine Ord.at_eff ?_); refine Ord.walk_skip rfl rfl (fun K hK => ?_))
    | ((with_reducible refine Ord.at_calm ?_); refine Ord.calm_skip rfl ?_ (fun K hK => ?_); (focus (simp [Region.wanted, yielded]; done))) | with_reducible refine Ord.walk_calm rfl rfl (fun K hK => ?_) | ((with_reducible refine Ord.at_wild ?_); refine Ord.wild_fieldAddr rfl rfl (fun W => by simp [go_sem]; rfl) (fun K hK => ?_)) | ((with_reducible refine Ord.at_wild ?_); refine Ord.wild_move rfl rfl (fun K hK => ?_)) | ((with_reducible refine Ord.at_wild ?_); refine Ord.wild_nilCheck rfl rfl (fun K hK => ?_)) | with_reducible refine Ord.walk_eff rfl (by first | (simp; done) | assumption | (go_simp; done) | (repeat (first | assumption | exact Below.refl _ _ | refine Below.drew ?_ | refine Below.alloc ?_ (by first | omega | (simp; done) | (simp; omega)) _ | refine Below.setCell ?_ (by first | omega | (simp; done) | (simp; omega)) _ | refine Below.trans ?_ (Below.mono (by assumption) (by first | omega | (simp; done) | (simp; omega)))))) (fun K hK => ?_) | with_reducible refine Ord.at_fork ?_ ?_ | with_reducible refine Ord.walk_nil ?_ | (with_reducible refine Ord.next_of (by first | (simp; done) | (go_simp; done) | (repeat (first | assumption | exact Below.refl _ _ | refine Below.drew ?_ | refine Below.alloc ?_ (by first | omega | (simp; done) | (simp; omega)) _ | refine Below.setCell ?_ (by first | omega | (simp; done) | (simp; omega)) _ | refine Below.trans ?_ (Below.mono (by assumption) (by first | omega | (simp; done) | (simp; omega)))))) (fun _ => ?_)))
  refine Ord.wp_region [(0, 0), (1, 0), (2, 0), (3, 0), (4, 0), (5, 0)] (fun _ => True) (by kernel_rfl) (by kernel_rfl) (fun c a d v w h => by cases d <;> exact h) trivial ?_
  go_wp2_with (first
    | ((with_reducible refine Ord.at_calm ?_); refine Ord.calm_skip rfl ?_ (fun K hK => ?_); (focus (simp [Region.wanted, yielded]; done))) | with_reducible refine Ord.walk_calm rfl rfl (fun K hK => ?_) | ((with_reducible refine Ord.at_wild ?_); refine Ord.wild_fieldAddr rfl rfl (fun W => by simp [go_sem]; rfl) (fun K hK => ?_)) | ((with_reducible refine Ord.at_wild ?_); refine Ord.wild_move rfl rfl (fun K hK => ?_)) | ((with_reducible refine Ord.at_wild ?_); refine Ord.wild_nilCheck rfl rfl (fun K hK => ?_)) | with_reducible refine Ord.walk_eff rfl (by first | (simp; done) | assumption | (go_simp; done) | (repeat (first | assumption | exact Below.refl _ _ | refine Below.drew ?_ | refine Below.alloc ?_ (by first | omega | (simp; done) | (simp; omega)) _ | refine Below.setCell ?_ (by first | omega | (simp; done) | (simp; omega)) _ | refine Below.trans ?_ (Below.mono (by assumption) (by first | omega | (simp; done) | (simp; omega)))))) (fun K hK => ?_) | with_reducible refine Ord.at_fork ?_ ?_ | with_reducible refine Ord.walk_nil ?_ | (with_reducible refine Ord.next_of (by first | (simp; done) | (go_simp; done) | (repeat (first | assumption | exact Below.refl _ _ | refine Below.drew ?_ | refine Below.alloc ?_ (by first | omega | (simp; done) | (simp; omega)) _ | refine Below.setCell ?_ (by first | omega | (simp; done) | (simp; omega)) _ | refine Below.trans ?_ (Below.mono (by assumption) (by first | omega | (simp; done) | (simp; omega)))))) (fun _ => ?_)))
  have b15d := b15.drew
  have hBd := hBw5.drew
  have ht5d := ht5.below (Below.refl _ w5).drew
  obtain ⟨w6, hw6⟩ : ∃ w6, w5.drew = w6 := ⟨_, rfl⟩
  rw [hw6] at b15d hBd ht5d ⊢
  have hs6 : w.heap.size + 1 ≤ w6.heap.size := by rw [← hw6]; simpa using hs5
  clear hw6 b15 hBw5 ht5 r15 hs5 hB15
  have HCt := Lib.hid (fun j (hj : j < T.length) => count_take T (fun t => decide (dayAt m t.1 t.2 i (shedN m) < dayAt m t.1 t.2 k (shedN m))) j hj)
  have HAN : Hid (aheadN m i k = (T.take T.length).countP fun t => decide (dayAt m t.1 t.2 i (shedN m) < dayAt m t.1 t.2 k (shedN m))) := by
    show _ = _; rw [List.take_length, ← HTT.out]; rfl
  have hTpos : T.length ≠ 0 := fun e => hT0 (List.length_eq_zero_iff.1 e)
  have hih : i < m.herds.length := by omega
  have hkh : k < m.herds.length := by omega
  generalize aheadN m i k = AN at *
  go_loopw [10, 12] (fun n iv wr => ∃ j : Nat, j ≤ T.length ∧ iv = .int .i64 (j : Int) ∧ n = .int .i64 (((T.take j).countP (fun t => decide (dayAt m t.1 t.2 i (shedN m) < dayAt m t.1 t.2 k (shedN m))) : Nat) : Int) ∧ Below w6.heap.size w6 wr) (fun _ iv _ => T.length - (intOf iv).toNat)
  case atStart => exact ⟨0, Nat.zero_le _, rfl, rfl, Below.refl _ _⟩
  case round =>
    obtain ⟨j, hj, rfl, rfl, hBr⟩ := hrel
    have br := b15d.below hBr (by omega)
    have hBwr := hBd.trans (hBr.mono (by omega))
    have htr := ht5d.below hBr
    have hcl := List.countP_le_length (p := fun t => decide (dayAt m t.1 t.2 i (shedN m) < dayAt m t.1 t.2 k (shedN m))) (l := T.take j)
    rw [List.length_take] at hcl
    by_cases hlt : j < T.length
    · have hlti : (j : Int) < (T.length : Int) := by omega
      obtain ⟨g, o, la', lc', da, dc, rfl, c1, c2, hL, hD⟩ := htr.get hlt
      have HS := Lib.hid (HCt.out j hlt)
      have hI : ∀ h, h < m.herds.length → ∀ W, Below wr.heap.size wr W → Calls Try.prog 52 #[.agg #[.slice pa m.places.length pc, .slice la m.legs.length lc, .slice ha m.herds.length hc, .slice sa m.seen.length sc], tv (T[j]).1 (T[j]).2 la' lc' da dc, .int .i64 (h : Int), .int .i64 (shedN m : Nat)] W (Gives (.int .i64 (dayAt m (T[j]).1 (T[j]).2 h (shedN m))) W) := fun h hh W hb => HIn.out (T[j]) (List.getElem_mem hlt) la' lc' da dc W (hBwr.trans (hb.mono hBwr.size)) (hL.below hb) (hD.below hb) h hh
      have HI := Lib.hid hI
      have hgl := World.block_lt_of_cell? wr _ c1
      simp only at hgl
      clear hI hL hD htr HIn HCt
      generalize (T.take j).countP (fun t => decide (dayAt m t.1 t.2 i (shedN m) < dayAt m t.1 t.2 k (shedN m))) = cn at *
      generalize T[j] = t at *
      obtain ⟨tL, tD⟩ := t
      simp only at *
      obtain ⟨dy, hdy⟩ : ∃ dy : Nat → Int, dy = fun h => dayAt m tL tD h (shedN m) := ⟨_, rfl⟩
      have hdy2 : ∀ h, dayAt m tL tD h (shedN m) = dy h := fun h => by rw [hdy]
      simp only [hdy2] at HI HS
      clear hdy hdy2
      go_wp2_with fail
      refine Ord.wp_region [(0, 0), (1, 0), (2, 0), (3, 0), (4, 0), (5, 0), (6, 0), (8, 1), (9, 1), (10, 1), (11, 1), (12, 1), (13, 1), (14, 1), (7, 2), (15, 2), (16, 0)] (fun W' => Below wr.heap.size wr W') (by kernel_rfl) (by kernel_rfl) (fun c a d v w h => by cases d <;> exact h) (Below.refl _ _).drew ?_
      go_wp2_with (first
        | (refine wpList_load_blk 27 (.tmp 3) agg_mob rfl rfl rfl br.drew rfl ?_)
        | ((with_reducible refine Ord.at_wild ?_); refine Ord.wild_load (ad := ⟨w.heap.size, 0, none⟩) (.agg #[.slice pa m.places.length pc, .slice la m.legs.length lc, .slice ha m.herds.length hc, .slice sa m.seen.length sc]) rfl rfl ?_ ?_; (focus (intro W hW; exact loadVar_blk agg_mob (br.below hW br.lt) rfl)); intro K hK)
        | ((with_reducible refine Ord.at_wild ?_); refine Ord.wild_idx (.pointer (some ⟨g, o + j * 2, none⟩)) rfl ?_ ?_; (focus (intro W hW; simp [go_sem, hlti]; done)); intro K hK)
        | ((with_reducible refine Ord.at_wild ?_); refine Ord.wild_load (ad := ⟨g, o + j * 2, none⟩) (.agg #[.slice la' tL.length lc', .slice da tD.length dc]) rfl rfl ?_ ?_; (focus (intro W hW; have y1 := (hW.cell (p := ⟨g, o + j * 2, none⟩) hgl).trans c1; have y2 := (hW.cell (p := ⟨g, o + j * 2 + 1, none⟩) hgl).trans c2; simp [go_sem, y1, y2]; done)); intro K hK)
        | (go_at_call 52; refine (HI.out _ (by first | exact hih | exact hkh) _ (by (repeat (first | assumption | exact Below.refl _ _ | refine Below.drew ?_ | refine Below.alloc ?_ (by first | omega | (simp; done) | (simp; omega)) _ | refine Below.setCell ?_ (by first | omega | (simp; done) | (simp; omega)) _ | refine Below.trans ?_ (Below.mono (by assumption) (by first | omega | (simp; done) | (simp; omega))))))).mono ?_; rintro e w7 ⟨rfl, hb7⟩; have hz7 := hb7.size; (try simp only [World.size_drew] at hz7))
        | ((with_reducible refine Ord.at_calm ?_); refine Ord.calm_skip rfl ?_ (fun K hK => ?_); (focus (simp [Region.wanted, yielded]; done))) | with_reducible refine Ord.walk_calm rfl rfl (fun K hK => ?_) | ((with_reducible refine Ord.at_wild ?_); refine Ord.wild_fieldAddr rfl rfl (fun W => by simp [go_sem]; rfl) (fun K hK => ?_)) | ((with_reducible refine Ord.at_wild ?_); refine Ord.wild_move rfl rfl (fun K hK => ?_)) | ((with_reducible refine Ord.at_wild ?_); refine Ord.wild_nilCheck rfl rfl (fun K hK => ?_)) | with_reducible refine Ord.walk_eff rfl (by first | (simp; done) | assumption | (go_simp; done) | (repeat (first | assumption | exact Below.refl _ _ | refine Below.drew ?_ | refine Below.alloc ?_ (by first | omega | (simp; done) | (simp; omega)) _ | refine Below.setCell ?_ (by first | omega | (simp; done) | (simp; omega)) _ | refine Below.trans ?_ (Below.mono (by assumption) (by first | omega | (simp; done) | (simp; omega)))))) (fun K hK => ?_) | with_reducible refine Ord.at_fork ?_ ?_ | with_reducible refine Ord.walk_nil ?_ | (with_reducible refine Ord.next_of (by first | (simp; done) | (go_simp; done) | (repeat (first | assumption | exact Below.refl _ _ | refine Below.drew ?_ | refine Below.alloc ?_ (by first | omega | (simp; done) | (simp; omega)) _ | refine Below.setCell ?_ (by first | omega | (simp; done) | (simp; omega)) _ | refine Below.trans ?_ (Below.mono (by assumption) (by first | omega | (simp; done) | (simp; omega)))))) (fun _ => ?_)))
      all_goals
        refine ⟨⟨j + 1, by omega, by go_num, by rw [HS.out]; first | (rw [if_pos (by simpa using (by assumption : dy i < dy k))]; simp; done) | (rw [if_neg (by simp; omega)]; simp; done), hBr.trans ((by (repeat (first | assumption | exact Below.refl _ _ | refine Below.drew ?_ | refine Below.alloc ?_ (by first | omega | (simp; done) | (simp; omega)) _ | refine Below.setCell ?_ (by first | omega | (simp; done) | (simp; omega)) _ | refine Below.trans ?_ (Below.mono (by assumption) (by first | omega | (simp; done) | (simp; omega))))) : Below wr.heap.size wr w7).mono hBr.size)⟩, by simp [intOf]; omega⟩
    · have hlti : ¬ (j : Int) < (T.length : Int) := by omega
      obtain rfl : j = T.length := by omega
      rw [← HAN.out] at hcl ⊢
      have hBw' := hBwr
      clear HIn HCt HAN htr hBr hBd ht5d b15d
      by_cases e1 : AN = T.length
      · have e1b : ((AN : Int) == (T.length : Int)) = true := by simp [e1]
        obtain rfl : G = 2 := by rw [← HG.out]; unfold gradeM; rw [if_pos e1]
        go_wp2_with fail
        go_ret2
        exact ⟨rfl, hBw'⟩
      · have e1b : ((AN : Int) == (T.length : Int)) = false := by simp; omega
        by_cases e0 : AN = 0
        · have e0b : ((AN : Int) == 0) = true := by simp [e0]
          obtain rfl : G = 0 := by rw [← HG.out]; unfold gradeM; rw [if_neg e1, if_pos e0]
          go_wp2_with fail
          go_ret2
          exact ⟨rfl, hBw'⟩
        · have e0b : ((AN : Int) == 0) = false := by simp; omega
          obtain rfl : G = 1 := by rw [← HG.out]; unfold gradeM; rw [if_neg e1, if_neg e0]
          go_wp2_with fail
          go_ret2
          exact ⟨rfl, hBw'⟩
theorem r_Ahead {m : Mb} {A : Ma} {w : World} (i k : Int) (hl : Mlen m) (hm : MbAt w m A) :
    Calls Try.prog 14 #[mv m A, .int .i64 i, .int .i64 k] w (Gives2 (.int .i64 (aheadR m i k).1) (.int .i64 (aheadR m i k).2) w) := by
  unfold aheadR
  by_cases hk : knownE m (herdB m i && herdB m k) = 0
  · rw [if_pos hk]
    have hi2 := (known_yes hk).2.1
    rw [Bool.and_eq_true] at hi2
    have b1 := inB_of hi2.1
    have b2 := inB_of hi2.2
    obtain ⟨i', rfl⟩ : ∃ i' : Nat, i = (i' : Int) := ⟨i.toNat, by omega⟩
    obtain ⟨k', rfl⟩ : ∃ k' : Nat, k = (k' : Int) := ⟨k.toNat, by omega⟩
    exact r_Ahead_yes i' k' hl hm hk
  · rw [if_neg hk]
    exact r_Ahead_no i k hl hm hk
end Go.Proofs.Yteeinehpneppnaa
