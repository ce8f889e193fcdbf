/- shearworksref01: Every, Truths, check, known. -/
import Derived.Test.YteeinehpneppnaaGreatMbI
set_option linter.unusedVariables false
set_option linter.unusedSimpArgs false
namespace Go.Proofs.YteeinehpneppnaaGreat
open Go.RowKit Go.Proofs
attribute [local irreducible] Ord.walk
def everyN (m : Mb) : Nat := 2 ^ m.seen.length - 1
def TM (m : Mb) : List (List Int × List Int) := truthsM m (everyN m)
def chkM (m : Mb) (vb : Bool) : Int := if validM m = false then 1 else if vb = false then 2 else 0
def knownE (m : Mb) (vb : Bool) : Int := if validM m = false then 1 else if vb = false then 2 else if TM m = [] then 10 else 0
set_option maxHeartbeats 4000000 in
set_option maxRecDepth 100000 in
theorem r_every {m : Mb} {A : Ma} (h5 : m.seen.length ≤ 40) (w : World) : Calls Tryz.prog 95 #[mv m A] w (Gives (.int .i64 (everyN m : Nat)) w) := by
  have hs : (m.seen.length : Int) ≤ 40 := by omega
  have HP := Lib.hid (fun W => r_power0 m.seen.length (by omega) W)
  have HE : Hid ((everyN m : Nat) = 2 ^ m.seen.length - 1) := rfl
  have hp : 2 ^ m.seen.length ≤ 2 ^ 40 := Nat.pow_le_pow_right (by omega) h5
  have hp0 := Nat.two_pow_pos m.seen.length
  have e40 : (2 : Nat) ^ 40 = 1099511627776 := rfl
  generalize everyN m = E at *
  generalize 2 ^ m.seen.length = Z at *
  rcases A with ⟨pa, pc, la, lc, ha, hc, sa, sc⟩
  unfold mv mcells at *
  simp only at *
  go_enter Tryz.func95, Tryz.ntmps95
  go_wp2_with (first
    | (go_at_call 48; refine (HP.out _).mono ?_; rintro e w' ⟨rfl, rfl⟩))
  go_ret
  exact ⟨ret_int (by rw [HE.out]; omega), (Below.refl _ _).alloc (Nat.le_refl _) _⟩
set_option maxHeartbeats 4000000 in
set_option maxRecDepth 100000 in
theorem r_Truths {m : Mb} {A : Ma} {w : World} (hv : validM m = true) (hm : MbAt w m A) :
    Calls Tryz.prog 82 #[mv m A] w (fun e w' => ∃ v, e = .returned v ∧ TruthsAt w' v (TM m) ∧ Below w.heap.size w w') := by
  have hl := validM_len hv
  have HE := Lib.hid (fun W => r_every (A := A) (m := m) (by omega) W)
  have hlt : everyN m < 2 ^ 62 := by
    unfold everyN
    have h1 : 2 ^ m.seen.length ≤ 2 ^ 5 := Nat.pow_le_pow_right (by omega) (by omega)
    have : (2 : Nat) ^ 5 < 2 ^ 62 := by decide
    omega
  have HT := Lib.hid (fun W (hb : Below w.heap.size w W) => r_truths (everyN m) hv (hm.below hb) hlt)
  have HTM : Hid (TM m = truthsM m (everyN m)) := rfl
  generalize TM m = T at *
  generalize everyN m = E at *
  generalize truthsM m E = T2 at *
  clear hv hm
  rcases A with ⟨pa, pc, la, lc, ha, hc, sa, sc⟩
  unfold mv mcells at *
  simp only at *
  have hB0 : Below w.heap.size w (w.alloc (.cells #[.slice pa m.places.length pc, .slice la m.legs.length lc, .slice ha m.herds.length hc, .slice sa m.seen.length sc] 27)).drew := ((Below.refl _ _).alloc (Nat.le_refl _) _).drew
  go_enter Tryz.func82, Tryz.ntmps82
  go_wp2_with fail
  have b1 := Blk.new w #[.slice pa m.places.length pc, .slice la m.legs.length lc, .slice ha m.herds.length hc, .slice sa m.seen.length sc] 27
  refine Ord.wp_region [(0, 1), (1, 0), (2, 2), (3, 2), (4, 0)] (fun W' => Below (w.heap.size + 1) (w.alloc (.cells #[.slice pa m.places.length pc, .slice la m.legs.length lc, .slice ha m.herds.length hc, .slice sa m.seen.length sc] 27)) W') (by kernel_rfl) (by kernel_rfl) (fun c a d v w h => by cases d <;> exact h) (Below.refl _ _).drew ?_
  go_wp2_with (first
    | ((with_reducible refine Ord.at_wild ?_); refine Ord.wild_load (ad := ⟨w.heap.size, 0, none⟩) (.agg #[.slice pa m.places.length pc, .slice la m.legs.length lc, .slice ha m.herds.length hc, .slice sa m.seen.length sc]) rfl rfl ?_ ?_; (focus (intro W hW; exact loadVar_blk agg_mob (b1.below hW (by omega)) rfl)); intro K hK)
    | (go_at_call 95; refine (HE.out _).mono ?_; rintro e w2 ⟨rfl, hb2⟩; refine at_stop ?_)
    | ((with_reducible refine Ord.at_calm ?_); refine Ord.calm_skip rfl ?_ (fun K hK => ?_); (focus (simp [Region.wanted, yielded]; done))) | with_reducible refine Ord.walk_calm rfl rfl (fun K hK => ?_) | ((with_reducible refine Ord.at_wild ?_); refine Ord.wild_fieldAddr rfl rfl (fun W => by simp [go_sem]; rfl) (fun K hK => ?_)) | ((with_reducible refine Ord.at_wild ?_); refine Ord.wild_move rfl rfl (fun K hK => ?_)) | ((with_reducible refine Ord.at_wild ?_); refine Ord.wild_nilCheck rfl rfl (fun K hK => ?_)) | with_reducible refine Ord.walk_eff rfl (by first | (simp; done) | assumption | (go_simp; done) | (repeat (first | assumption | exact Below.refl _ _ | refine Below.drew ?_ | refine Below.alloc ?_ (by first | omega | (simp; done) | (simp; omega)) _ | refine Below.setCell ?_ (by first | omega | (simp; done) | (simp; omega)) _ | refine Below.trans ?_ (Below.mono (by assumption) (by first | omega | (simp; done) | (simp; omega)))))) (fun K hK => ?_) | with_reducible refine Ord.at_fork ?_ ?_ | with_reducible refine Ord.walk_nil ?_ | (with_reducible refine Ord.next_of (by first | (simp; done) | (go_simp; done) | (repeat (first | assumption | exact Below.refl _ _ | refine Below.drew ?_ | refine Below.alloc ?_ (by first | omega | (simp; done) | (simp; omega)) _ | refine Below.setCell ?_ (by first | omega | (simp; done) | (simp; omega)) _ | refine Below.trans ?_ (Below.mono (by assumption) (by first | omega | (simp; done) | (simp; omega)))))) (fun _ => ?_)))
  unfold Stop
  have hB2 : Below (w.heap.size + 1) (w.alloc (.cells #[.slice pa m.places.length pc, .slice la m.legs.length lc, .slice ha m.herds.length hc, .slice sa m.seen.length sc] 27)) w2 := (Below.refl _ _).drew.trans (hb2.mono (by simp))
  have hBw : Below w.heap.size w w2 := ((Below.refl _ _).alloc (Nat.le_refl _) _).trans (hB2.mono (by omega))
  go_wp2_with (first
    | (go_at_call 94; refine (HT.out _ hBw).mono ?_; rintro e w3 ⟨v3, rfl, ht3, hb3⟩; refine at_stop ?_)
    | ((with_reducible refine Ord.at_calm ?_); refine Ord.calm_skip rfl ?_ (fun K hK => ?_); (focus (simp [Region.wanted, yielded]; done))) | with_reducible refine Ord.walk_calm rfl rfl (fun K hK => ?_) | ((with_reducible refine Ord.at_wild ?_); refine Ord.wild_fieldAddr rfl rfl (fun W => by simp [go_sem]; rfl) (fun K hK => ?_)) | ((with_reducible refine Ord.at_wild ?_); refine Ord.wild_move rfl rfl (fun K hK => ?_)) | ((with_reducible refine Ord.at_wild ?_); refine Ord.wild_nilCheck rfl rfl (fun K hK => ?_)) | with_reducible refine Ord.walk_eff rfl (by first | (simp; done) | assumption | (go_simp; done) | (repeat (first | assumption | exact Below.refl _ _ | refine Below.drew ?_ | refine Below.alloc ?_ (by first | omega | (simp; done) | (simp; omega)) _ | refine Below.setCell ?_ (by first | omega | (simp; done) | (simp; omega)) _ | refine Below.trans ?_ (Below.mono (by assumption) (by first | omega | (simp; done) | (simp; omega)))))) (fun K hK => ?_) | with_reducible refine Ord.at_fork ?_ ?_ | with_reducible refine Ord.walk_nil ?_ | (with_reducible refine Ord.next_of (by first | (simp; done) | (go_simp; done) | (repeat (first | assumption | exact Below.refl _ _ | refine Below.drew ?_ | refine Below.alloc ?_ (by first | omega | (simp; done) | (simp; omega)) _ | refine Below.setCell ?_ (by first | omega | (simp; done) | (simp; omega)) _ | refine Below.trans ?_ (Below.mono (by assumption) (by first | omega | (simp; done) | (simp; omega)))))) (fun _ => ?_)))
  unfold Stop
  have hB3 := hB2.trans (hb3.mono (by have := hB2.size; simp at this; omega))
  go_wp2_with (first
    | ((with_reducible refine Ord.at_calm ?_); refine Ord.calm_skip rfl ?_ (fun K hK => ?_); (focus (simp [Region.wanted, yielded]; done))) | with_reducible refine Ord.walk_calm rfl rfl (fun K hK => ?_) | ((with_reducible refine Ord.at_wild ?_); refine Ord.wild_fieldAddr rfl rfl (fun W => by simp [go_sem]; rfl) (fun K hK => ?_)) | ((with_reducible refine Ord.at_wild ?_); refine Ord.wild_move rfl rfl (fun K hK => ?_)) | ((with_reducible refine Ord.at_wild ?_); refine Ord.wild_nilCheck rfl rfl (fun K hK => ?_)) | with_reducible refine Ord.walk_eff rfl (by first | (simp; done) | assumption | (go_simp; done) | (repeat (first | assumption | exact Below.refl _ _ | refine Below.drew ?_ | refine Below.alloc ?_ (by first | omega | (simp; done) | (simp; omega)) _ | refine Below.setCell ?_ (by first | omega | (simp; done) | (simp; omega)) _ | refine Below.trans ?_ (Below.mono (by assumption) (by first | omega | (simp; done) | (simp; omega)))))) (fun K hK => ?_) | with_reducible refine Ord.at_fork ?_ ?_ | with_reducible refine Ord.walk_nil ?_ | (with_reducible refine Ord.next_of (by first | (simp; done) | (go_simp; done) | (repeat (first | assumption | exact Below.refl _ _ | refine Below.drew ?_ | refine Below.alloc ?_ (by first | omega | (simp; done) | (simp; omega)) _ | refine Below.setCell ?_ (by first | omega | (simp; done) | (simp; omega)) _ | refine Below.trans ?_ (Below.mono (by assumption) (by first | omega | (simp; done) | (simp; omega)))))) (fun _ => ?_)))
  go_ret
  exact ⟨v3, rfl, by rw [HTM.out]; exact ht3, hBw.trans (hb3.mono hBw.size)⟩
set_option maxHeartbeats 4000000 in
set_option maxRecDepth 100000 in
theorem r_check {m : Mb} {A : Ma} {w : World} (vb : Bool) (hl : Mlen m) (hm : MbAt w m A) :
    Calls Tryz.prog 81 #[mv m A, .bool vb] w (Gives (.int .i64 (chkM m vb)) w) := by
  have HM := Lib.hid (fun W (hb : Below w.heap.size w W) => r_mob m A hl W (hm.below hb))
  have hB0 : Below w.heap.size w (w.alloc (.cells (mcells m A) 27)) := (Below.refl _ _).alloc (Nat.le_refl _) _
  have b1 := Blk.new w (mcells m A) 27
  have HR : Hid (chkM m vb = if validM m = false then 1 else if vb = false then 2 else 0) := rfl
  generalize chkM m vb = R at *
  clear hl hm
  rcases A with ⟨pa, pc, la, lc, ha, hc, sa, sc⟩
  unfold mv mcells at *
  simp only at *
  have r1 := b1.cell
  cases hv : validM m <;> rw [hv] at HM HR <;> cases vb
  all_goals go_enter Tryz.func81, Tryz.ntmps81
  all_goals go_wp2_with (first
    | (go_at_call 15; refine (HM.out _ hB0).mono ?_; rintro e w2 ⟨rfl, hb2⟩))
  all_goals go_ret
  all_goals exact ⟨ret_int (by rw [HR.out]; rfl), hB0.trans (hb2.mono (by first | omega | (simp; done) | (simp; omega)))⟩
def KnownPost (m : Mb) (vb : Bool) (w : World) (e : Ending) (w' : World) : Prop :=
  ∃ v, e = .returned (.tuple #[v, .int .i64 (knownE m vb)]) ∧ (if knownE m vb = 0 then TruthsAt w' v (TM m) else v = .slice none 0 0) ∧ Below w.heap.size w w'
set_option maxHeartbeats 4000000 in
set_option maxRecDepth 100000 in
theorem r_known {m : Mb} {A : Ma} {w : World} (vb : Bool) (hl : Mlen m) (hm : MbAt w m A) :
    Calls Tryz.prog 34 #[mv m A, .bool vb] w (KnownPost m vb w) := by
  have HC := Lib.hid (fun W (hb : Below w.heap.size w W) => r_check vb hl (hm.below hb))
  have hB0 : Below w.heap.size w (w.alloc (.cells (mcells m A) 27)) := (Below.refl _ _).alloc (Nat.le_refl _) _
  have b1 := Blk.new w (mcells m A) 27
  by_cases hc : chkM m vb = 0
  · have hv : validM m = true := by
      unfold chkM at hc
      cases h : validM m
      · rw [h] at hc; simp at hc
      · rfl
    have HT := Lib.hid (fun W (hb : Below w.heap.size w W) => r_Truths hv (hm.below hb))
    have hk : knownE m vb = if TM m = [] then 10 else 0 := by
      unfold chkM at hc
      unfold knownE
      rw [if_neg (by rw [hv]; simp)] at hc ⊢
      by_cases h : vb = false
      · rw [if_pos h] at hc; simp at hc
      · rw [if_neg h]
    rw [hc] at HC
    have HP : Hid (KnownPost m vb w = fun e w' => ∃ v, e = .returned (.tuple #[v, .int .i64 (if TM m = [] then 10 else 0)]) ∧ (if (if TM m = [] then (10 : Int) else 0) = 0 then TruthsAt w' v (TM m) else v = .slice none 0 0) ∧ Below w.heap.size w w') := by
      show _ = _
      unfold KnownPost; rw [hk]
    generalize hPP : KnownPost m vb w = PP at *
    clear hPP hl hm hk hc
    generalize TM m = T at *
    rcases A with ⟨pa, pc, la, lc, ha, hc, sa, sc⟩
    unfold mv mcells at *
    simp only at *
    have r1 := b1.cell
    go_enter Tryz.func34, Tryz.ntmps34
    go_wp2_with (first
      | (refine wpList_load_blk 27 (.tmp 2) agg_mob rfl rfl rfl b1 rfl ?_)
      | (go_at_call 81; refine (HC.out _ hB0).mono ?_; rintro e w2 ⟨rfl, hb2⟩; refine at_stop ?_))
    unfold Stop
    have hB2 := hB0.trans (hb2.mono (by simp))
    have b2 := b1.below hb2 (by simp)
    clear hb2 r1
    go_wp2_with (first
      | (refine wpList_load_blk 27 (.tmp 2) agg_mob rfl rfl rfl b2 rfl ?_)
      | (go_at_call 82; refine (HT.out _ hB2).mono ?_; rintro e w3 ⟨v3, rfl, ht3, hb3⟩; refine at_stop ?_))
    unfold Stop
    have hB3 := hB2.trans (hb3.mono hB2.size)
    obtain ⟨a3, c3, rfl, hrow⟩ := ht3
    have ht3 : TruthsAt w3 (.slice a3 T.length c3) T := ⟨a3, c3, rfl, hrow⟩
    clear hb3 hrow
    by_cases h0 : T = []
    · have h0l : T.length = 0 := by rw [h0]; rfl
      have HP2 : Hid (PP = fun e w' => ∃ v, e = .returned (.tuple #[v, .int .i64 10]) ∧ v = .slice none 0 0 ∧ Below w.heap.size w w') := by
        show _ = _
        rw [HP.out, if_pos h0]; rfl
      clear HP h0 ht3
      rw [h0l]
      go_wp2_with fail
      rw [HP2.out]
      exact ⟨_, rfl, rfl, hB3⟩
    · have h0l : ¬ (T.length : Int) = 0 := by have := List.length_pos_iff.2 h0; omega
      have HP2 : Hid (PP = fun e w' => ∃ v, e = .returned (.tuple #[v, .int .i64 0]) ∧ TruthsAt w' v T ∧ Below w.heap.size w w') := by
        show _ = _
        rw [HP.out, if_neg h0]; rfl
      clear HP h0
      go_wp2_with fail
      rw [HP2.out]
      exact ⟨_, rfl, ht3, hB3⟩
  · have hk : knownE m vb = chkM m vb := by
      unfold chkM at hc ⊢
      unfold knownE
      cases h : validM m
      · rfl
      · cases h2 : vb
        · rfl
        · rw [h, h2] at hc; simp at hc
    have HP : Hid (KnownPost m vb w = fun e w' => ∃ v, e = .returned (.tuple #[v, .int .i64 (chkM m vb)]) ∧ v = .slice none 0 0 ∧ Below w.heap.size w w') := by
      show _ = _
      unfold KnownPost; simp only [hk, if_neg hc]
    generalize KnownPost m vb w = PP at *
    generalize chkM m vb = E at *
    clear hl hm hk
    rcases A with ⟨pa, pc, la, lc, ha, hc', sa, sc⟩
    unfold mv mcells at *
    simp only at *
    have r1 := b1.cell
    go_enter Tryz.func34, Tryz.ntmps34
    go_wp2_with (first
      | (refine wpList_load_blk 27 (.tmp 2) agg_mob rfl rfl rfl b1 rfl ?_)
      | (go_at_call 81; refine (HC.out _ hB0).mono ?_; rintro e w2 ⟨rfl, hb2⟩))
    rw [HP.out]
    exact ⟨_, rfl, rfl, hB0.trans (hb2.mono (by simp))⟩
end Go.Proofs.YteeinehpneppnaaGreat
