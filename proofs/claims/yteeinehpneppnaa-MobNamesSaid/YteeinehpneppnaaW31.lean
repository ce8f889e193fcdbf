/- Parts of a proof: MqF. -/
import Derived.Test.YteeinehpneppnaaW29
/- The law MobNames walked. (Printed by mkMqF.py) -/
set_option linter.unusedVariables false
set_option linter.unusedSimpArgs false
namespace Go.Proofs.Yteeinehpneppnaa
open Go.RowKit Go.Proofs
attribute [local irreducible] Ord.walk
set_option maxRecDepth 100000 in
theorem names_values : comesR (sM []) 0 1 = ((2, 4), 0) ∧ comesR (sM []) 0 2 = ((3, 5), 0) ∧ comesR (sM []) 1 3 = ((8, 8), 0) ∧ comesR (sM [(0, 1, 4, 4)]) 0 3 = ((9, 9), 0) ∧ whereP (sM []) 0 0 = (1, 0) ∧ whereP (sM [(0, 1, 4, 4)]) 0 4 = (2, 0) ∧ stretchR (sM []) 0 = ((3, 4), 0) ∧ stretchR (sM []) 1 = ((2, 2), 0) ∧ aheadP (sM []) 0 1 = (1, 0) ∧ aheadP (sM [(0, 1, 4, 4)]) 0 1 = (0, 0) ∧ thereR (sM []) 7 = (0, 1, 0) ∧ clashP (sM [(0, 1, 4, 4)]) = (0, 4) ∧ safeR (sM [(0, 1, 4, 4), (0, 2, 3, 4)]) 0 = (0, 10) := by
  refine ⟨?_, ?_, ?_, ?_, ?_, ?_, ?_, ?_, ?_, ?_, ?_, ?_, ?_⟩ <;> decide +kernel
theorem blk_of_alloc {w W : World} {C : Array Value} {t : TypeId} (h : w.alloc (.cells C t) = W) : Blk W w.heap.size C t := h ▸ Blk.new _ _ _
theorem below_of_alloc {w W : World} {o : Obj} (h : w.alloc o = W) : Below w.heap.size w W := h ▸ (Below.refl _ _).alloc (Nat.le_refl _) _
theorem agg_row : AggTy Try.prog 41 8 := ⟨_, Try.underlying41, rfl, by kernel_rfl⟩
set_option maxHeartbeats 40000000 in
set_option maxRecDepth 100000 in
theorem w_MobNames (w : World) : Calls Try.prog 4 #[] w (Gives (.bool true) w) := by
  obtain ⟨hc0, hc1, hc2, hc3, hw0, hw1, hs0, hs1, ha0, ha1, ht0, hk0, hf0⟩ := names_values
  have Vc0 := Lib.hid hc0
  have Vc1 := Lib.hid hc1
  have Vc2 := Lib.hid hc2
  have Vc3 := Lib.hid hc3
  have Vw0 := Lib.hid hw0
  have Vw1 := Lib.hid hw1
  have Vs0 := Lib.hid hs0
  have Vs1 := Lib.hid hs1
  have Va0 := Lib.hid ha0
  have Va1 := Lib.hid ha1
  have Vt0 := Lib.hid ht0
  have Vk0 := Lib.hid hk0
  have Vf0 := Lib.hid hf0
  clear hc0 hc1 hc2 hc3 hw0 hw1 hs0 hs1 ha0 ha1 ht0 hk0 hf0
  have S1 := Lib.hid (fun W => l_sample [] none 0 W (rows_nil none))
  have S2 := Lib.hid l_met
  have S3 := Lib.hid l_clash
  have G := Lib.hid l_span
  have HA := Lib.hid l_alive
  have P1 : Hid (∀ S, S.length ≤ 40 → ∀ i p v e, comesR (sM S) i p = (v, e) → ∀ w A, MbAt w (sM S) A → Calls Try.prog 22 #[mv (sM S) A, .int .i64 i, .int .i64 p] w (Gives2 (spv v) (.int .i64 e) w)) := fun S hS i p v e he w A h => by
    have := m_Comes i p w (sM_len hS) h; rwa [he] at this
  have P2 : Hid (∀ S, S.length ≤ 40 → ∀ i p v e, whereP (sM S) i p = (v, e) → ∀ w A, MbAt w (sM S) A → Calls Try.prog 23 #[mv (sM S) A, .int .i64 i, .int .i64 p] w (Gives2 (.int .i64 v) (.int .i64 e) w)) := fun S hS i p v e he w A h => by
    have := m_Where i p w (sM_len hS) h; rwa [he] at this
  have P3 : Hid (∀ S, S.length ≤ 40 → ∀ i v e, stretchR (sM S) i = (v, e) → ∀ w A, MbAt w (sM S) A → Calls Try.prog 24 #[mv (sM S) A, .int .i64 i] w (Gives2 (spv v) (.int .i64 e) w)) := fun S hS i v e he w A h => by
    have := m_Stretch i w (sM_len hS) h; rwa [he] at this
  have P4 : Hid (∀ S, S.length ≤ 40 → ∀ i p v e, aheadP (sM S) i p = (v, e) → ∀ w A, MbAt w (sM S) A → Calls Try.prog 13 #[mv (sM S) A, .int .i64 i, .int .i64 p] w (Gives2 (.int .i64 v) (.int .i64 e) w)) := fun S hS i p v e he w A h => by
    have := m_Ahead i p w (sM_len hS) h; rwa [he] at this
  have P5 : Hid (∀ S, S.length ≤ 40 → ∀ i v u e, thereR (sM S) i = (v, u, e) → ∀ w A, MbAt w (sM S) A → Calls Try.prog 15 #[mv (sM S) A, .int .i64 i] w (Gives3 (.int .i64 v) (.int .i64 u) (.int .i64 e) w)) := fun S hS i v u e he w A h => by
    have := m_There i w (sM_len hS) h; rwa [he] at this
  have P6 : Hid (∀ S, S.length ≤ 40 → ∀ v e, clashP (sM S) = (v, e) → ∀ w A, MbAt w (sM S) A → Calls Try.prog 17 #[mv (sM S) A] w (Gives2 (.int .i64 v) (.int .i64 e) w)) := fun S hS v e he w A h => by
    have := m_Clash w (sM_len hS) h; rwa [he] at this
  have P7 : Hid (∀ S, S.length ≤ 40 → ∀ i v e, safeR (sM S) i = (v, e) → ∀ w A, MbAt w (sM S) A → Calls Try.prog 25 #[mv (sM S) A, .int .i64 i] w (Gives2 (.int .i64 v) (.int .i64 e) w)) := fun S hS i v e he w A h => by
    have := m_Safe i w (sM_len hS) h; rwa [he] at this
  have hB := Below.refl w.heap.size w
  go_enter Try.func4, Try.ntmps4
  go_wp2_with (first
    | (go_at_call 19; refine (S1.out _).mono ?_; rintro e w1 ⟨A1, rfl, hV1, hb1⟩; replace hB := hB.trans (hb1.mono hB.size); refine at_stop ?_))
  unfold Stop
  clear hb1
  go_wp2_with (first
    | (go_at_call 20; refine (G.out _ _ _).mono ?_; rintro e w4 ⟨rfl, hb4⟩; replace hB := hB.trans (hb4.mono hB.size); replace hV1 := hV1.below hb4; clear hb4)
    | (go_at_call 19; refine (S1.out _).mono ?_; rintro e w2 ⟨A2, rfl, hV2, hb2⟩; replace hB := hB.trans (hb2.mono hB.size); replace hV1 := hV1.below hb2; refine at_stop ?_))
  unfold Stop
  clear hb2
  go_wp2_with (first
    | (go_at_call 20; refine (G.out _ _ _).mono ?_; rintro e w4 ⟨rfl, hb4⟩; replace hB := hB.trans (hb4.mono hB.size); replace hV1 := hV1.below hb4; replace hV2 := hV2.below hb4; clear hb4)
    | (go_at_call 19; refine (S1.out _).mono ?_; rintro e w3 ⟨A3, rfl, hV3, hb3⟩; replace hB := hB.trans (hb3.mono hB.size); replace hV1 := hV1.below hb3; replace hV2 := hV2.below hb3; refine at_stop ?_))
  unfold Stop
  clear hb3
  go_wp2_with (first
    | (go_at_call 20; refine (G.out _ _ _).mono ?_; rintro e w4 ⟨rfl, hb4⟩; replace hB := hB.trans (hb4.mono hB.size); replace hV1 := hV1.below hb4; replace hV2 := hV2.below hb4; replace hV3 := hV3.below hb4; clear hb4)
    | (go_at_call 21; refine (S2.out _).mono ?_; rintro e w5 ⟨A4, rfl, hV4, hb5⟩; replace hB := hB.trans (hb5.mono hB.size); replace hV1 := hV1.below hb5; replace hV2 := hV2.below hb5; replace hV3 := hV3.below hb5; refine at_stop ?_))
  unfold Stop
  clear hb5
  go_wp2_with (first
    | (go_at_call 20; refine (G.out _ _ _).mono ?_; rintro e w6 ⟨rfl, hb6⟩; replace hB := hB.trans (hb6.mono hB.size); replace hV1 := hV1.below hb6; replace hV2 := hV2.below hb6; replace hV3 := hV3.below hb6; replace hV4 := hV4.below hb6; clear hb6; refine at_stop ?_))
  unfold Stop
  go_wp2_with fail
  generalize hWg : w6.alloc _ = Wg
  have bG := blk_of_alloc hWg
  have hbg := below_of_alloc hWg
  replace hB := hB.trans (hbg.mono hB.size)
  replace hV1 := hV1.below hbg
  replace hV2 := hV2.below hbg
  replace hV3 := hV3.below hbg
  replace hV4 := hV4.below hbg
  clear hWg hbg
  generalize w6.heap.size = g at *
  go_loopw [38] (fun iv wr => ∃ k : Nat, k ≤ 4 ∧ iv = .int .i64 (k : Int) ∧ Below Wg.heap.size Wg wr) (fun iv _ => 4 - (intOf iv).toNat)
  case atStart => exact ⟨0, by omega, rfl, Below.refl _ _⟩
  case round =>
    obtain ⟨k, hk, rfl, hBr⟩ := hrel
    have rG := (bG.below hBr bG.lt).cell
    have hBw := hB.trans (hBr.mono hB.size)
    rcases (show k = 0 ∨ k = 1 ∨ k = 2 ∨ k = 3 ∨ k = 4 by omega) with rfl | rfl | rfl | rfl | rfl
    · have hVk := hV1.below hBr
      go_wp2_with (first
        | (go_at_call 22; refine (P1.out [] (by decide) _ _ _ _ Vc0.out _ A1 (hVk.below (by (repeat (first | assumption | exact Below.refl _ _ | refine Below.drew ?_ | refine Below.alloc ?_ (by first | omega | (simp; done) | (simp; omega)) _ | refine Below.setCell ?_ (by first | omega | (simp; done) | (simp; omega)) _ | refine Below.trans ?_ (Below.mono (by assumption) (by first | omega | (simp; done) | (simp; omega)))))))).mono ?_; rintro e w7 ⟨rfl, hb7⟩; refine at_stop ?_))
      unfold Stop
      have b2 := Blk.below (Blk.new wr _ _) hb7 (by simp)
      have hB7 : Below Wg.heap.size Wg w7 := hBr.trans ((((Below.refl _ _).alloc (Nat.le_refl _) _).trans (hb7.mono (by simp))).mono hBr.size)
      have r2 := b2.cell
      have l2 := b2.lt
      clear hb7 rG hVk
      go_wp2_with fail
      exact ⟨⟨1, by omega, by go_num, hB7.alloc hB7.size _⟩, by simp [intOf]⟩
    · have hVk := hV2.below hBr
      go_wp2_with (first
        | (go_at_call 22; refine (P1.out [] (by decide) _ _ _ _ Vc1.out _ A2 (hVk.below (by (repeat (first | assumption | exact Below.refl _ _ | refine Below.drew ?_ | refine Below.alloc ?_ (by first | omega | (simp; done) | (simp; omega)) _ | refine Below.setCell ?_ (by first | omega | (simp; done) | (simp; omega)) _ | refine Below.trans ?_ (Below.mono (by assumption) (by first | omega | (simp; done) | (simp; omega)))))))).mono ?_; rintro e w7 ⟨rfl, hb7⟩; refine at_stop ?_))
      unfold Stop
      have b2 := Blk.below (Blk.new wr _ _) hb7 (by simp)
      have hB7 : Below Wg.heap.size Wg w7 := hBr.trans ((((Below.refl _ _).alloc (Nat.le_refl _) _).trans (hb7.mono (by simp))).mono hBr.size)
      have r2 := b2.cell
      have l2 := b2.lt
      clear hb7 rG hVk
      go_wp2_with fail
      exact ⟨⟨2, by omega, by go_num, hB7.alloc hB7.size _⟩, by simp [intOf]⟩
    · have hVk := hV3.below hBr
      go_wp2_with (first
        | (go_at_call 22; refine (P1.out [] (by decide) _ _ _ _ Vc2.out _ A3 (hVk.below (by (repeat (first | assumption | exact Below.refl _ _ | refine Below.drew ?_ | refine Below.alloc ?_ (by first | omega | (simp; done) | (simp; omega)) _ | refine Below.setCell ?_ (by first | omega | (simp; done) | (simp; omega)) _ | refine Below.trans ?_ (Below.mono (by assumption) (by first | omega | (simp; done) | (simp; omega)))))))).mono ?_; rintro e w7 ⟨rfl, hb7⟩; refine at_stop ?_))
      unfold Stop
      have b2 := Blk.below (Blk.new wr _ _) hb7 (by simp)
      have hB7 : Below Wg.heap.size Wg w7 := hBr.trans ((((Below.refl _ _).alloc (Nat.le_refl _) _).trans (hb7.mono (by simp))).mono hBr.size)
      have r2 := b2.cell
      have l2 := b2.lt
      clear hb7 rG hVk
      go_wp2_with fail
      exact ⟨⟨3, by omega, by go_num, hB7.alloc hB7.size _⟩, by simp [intOf]⟩
    · have hVk := hV4.below hBr
      go_wp2_with (first
        | (go_at_call 22; refine (P1.out [(0, 1, 4, 4)] (by decide) _ _ _ _ Vc3.out _ A4 (hVk.below (by (repeat (first | assumption | exact Below.refl _ _ | refine Below.drew ?_ | refine Below.alloc ?_ (by first | omega | (simp; done) | (simp; omega)) _ | refine Below.setCell ?_ (by first | omega | (simp; done) | (simp; omega)) _ | refine Below.trans ?_ (Below.mono (by assumption) (by first | omega | (simp; done) | (simp; omega)))))))).mono ?_; rintro e w7 ⟨rfl, hb7⟩; refine at_stop ?_))
      unfold Stop
      have b2 := Blk.below (Blk.new wr _ _) hb7 (by simp)
      have hB7 : Below Wg.heap.size Wg w7 := hBr.trans ((((Below.refl _ _).alloc (Nat.le_refl _) _).trans (hb7.mono (by simp))).mono hBr.size)
      have r2 := b2.cell
      have l2 := b2.lt
      clear hb7 rG hVk
      go_wp2_with fail
      exact ⟨⟨4, by omega, by go_num, hB7.alloc hB7.size _⟩, by simp [intOf]⟩
    · clear rG hV1 hV2 hV3 hV4 bG hB hBr
      have hB := hBw
      clear P1
      go_wp2_with (first
        | (go_at_call 19; refine (S1.out _).mono ?_; rintro e w1 ⟨A1, rfl, hV1, hb1⟩; replace hB := hB.trans (hb1.mono hB.size); clear hb1)
        | (go_at_call 21; refine (S2.out _).mono ?_; rintro e w1 ⟨A1, rfl, hV1, hb1⟩; replace hB := hB.trans (hb1.mono hB.size); clear hb1)
        | (go_at_call 26; refine (S3.out _).mono ?_; rintro e w1 ⟨A1, rfl, hV1, hb1⟩; replace hB := hB.trans (hb1.mono hB.size); clear hb1)
        | (go_at_call 23; refine (P2.out _ (by decide) _ _ _ _ (by with_reducible first | exact Vw0.out | exact Vw1.out) _ _ hV1).mono ?_; rintro e w2 ⟨rfl, hb2⟩; replace hB := hB.trans (hb2.mono hB.size); clear hb2 hV1)
        | (go_at_call 24; refine (P3.out _ (by decide) _ _ _ (by with_reducible first | exact Vs0.out | exact Vs1.out) _ _ hV1).mono ?_; rintro e w2 ⟨rfl, hb2⟩; replace hB := hB.trans (hb2.mono hB.size); clear hb2 hV1)
        | (go_at_call 13; refine (P4.out _ (by decide) _ _ _ _ (by with_reducible first | exact Va0.out | exact Va1.out) _ _ hV1).mono ?_; rintro e w2 ⟨rfl, hb2⟩; replace hB := hB.trans (hb2.mono hB.size); clear hb2 hV1)
        | (go_at_call 15; refine (P5.out _ (by decide) _ _ _ _ (by with_reducible first | exact Vt0.out) _ _ hV1).mono ?_; rintro e w2 ⟨rfl, hb2⟩; replace hB := hB.trans (hb2.mono hB.size); clear hb2 hV1)
        | (go_at_call 17; refine (P6.out _ (by decide) _ _ (by with_reducible first | exact Vk0.out) _ _ hV1).mono ?_; rintro e w2 ⟨rfl, hb2⟩; replace hB := hB.trans (hb2.mono hB.size); clear hb2 hV1)
        | (go_at_call 25; refine (P7.out _ (by decide) _ _ _ (by with_reducible first | exact Vf0.out) _ _ hV1).mono ?_; rintro e w2 ⟨rfl, hb2⟩; replace hB := hB.trans (hb2.mono hB.size); clear hb2 hV1)
        | (refine wpList_store_blk 39 (.tmp 9) (.tmp 74) agg_span rfl rfl rfl rfl (Blk.new _ _ _) rfl rfl (by simp [Value.oneCell']) ?_; intro w3 h3; refine at_stop ?_))
      unfold Stop
      have bS := h3.blk
      replace hB := h3.below (hB.alloc hB.size _) hB.size
      generalize w2.heap.size = p at *
      clear h3
      go_wp2_with (first
        | (go_at_call 19; refine (S1.out _).mono ?_; rintro e w1 ⟨A1, rfl, hV1, hb1⟩; replace hB := hB.trans (hb1.mono hB.size); replace bS := bS.below hb1 bS.lt; clear hb1)
        | (go_at_call 21; refine (S2.out _).mono ?_; rintro e w1 ⟨A1, rfl, hV1, hb1⟩; replace hB := hB.trans (hb1.mono hB.size); replace bS := bS.below hb1 bS.lt; clear hb1)
        | (go_at_call 26; refine (S3.out _).mono ?_; rintro e w1 ⟨A1, rfl, hV1, hb1⟩; replace hB := hB.trans (hb1.mono hB.size); replace bS := bS.below hb1 bS.lt; clear hb1)
        | (go_at_call 23; refine (P2.out _ (by decide) _ _ _ _ (by with_reducible first | exact Vw0.out | exact Vw1.out) _ _ hV1).mono ?_; rintro e w2 ⟨rfl, hb2⟩; replace hB := hB.trans (hb2.mono hB.size); replace bS := bS.below hb2 bS.lt; clear hb2 hV1)
        | (go_at_call 24; refine (P3.out _ (by decide) _ _ _ (by with_reducible first | exact Vs0.out | exact Vs1.out) _ _ hV1).mono ?_; rintro e w2 ⟨rfl, hb2⟩; replace hB := hB.trans (hb2.mono hB.size); replace bS := bS.below hb2 bS.lt; clear hb2 hV1)
        | (go_at_call 13; refine (P4.out _ (by decide) _ _ _ _ (by with_reducible first | exact Va0.out | exact Va1.out) _ _ hV1).mono ?_; rintro e w2 ⟨rfl, hb2⟩; replace hB := hB.trans (hb2.mono hB.size); replace bS := bS.below hb2 bS.lt; clear hb2 hV1)
        | (go_at_call 15; refine (P5.out _ (by decide) _ _ _ _ (by with_reducible first | exact Vt0.out) _ _ hV1).mono ?_; rintro e w2 ⟨rfl, hb2⟩; replace hB := hB.trans (hb2.mono hB.size); replace bS := bS.below hb2 bS.lt; clear hb2 hV1)
        | (go_at_call 17; refine (P6.out _ (by decide) _ _ (by with_reducible first | exact Vk0.out) _ _ hV1).mono ?_; rintro e w2 ⟨rfl, hb2⟩; replace hB := hB.trans (hb2.mono hB.size); replace bS := bS.below hb2 bS.lt; clear hb2 hV1)
        | (go_at_call 25; refine (P7.out _ (by decide) _ _ _ (by with_reducible first | exact Vf0.out) _ _ hV1).mono ?_; rintro e w2 ⟨rfl, hb2⟩; replace hB := hB.trans (hb2.mono hB.size); replace bS := bS.below hb2 bS.lt; clear hb2 hV1)
        | (refine wpList_store_blk 39 (.tmp 11) (.tmp 79) agg_span rfl rfl rfl rfl (Blk.new _ _ _) rfl rfl (by simp [Value.oneCell']) ?_; intro w5 h5; refine at_stop ?_))
      unfold Stop
      have bT := h5.blk
      replace bS := h5.other (bS.alloc _) (by have := bS.lt; omega)
      replace hB := h5.below (hB.alloc hB.size _) hB.size
      generalize w2.heap.size = q at *
      clear h5
      go_wp2_with (first
        | (go_at_call 19; refine (S1.out _).mono ?_; rintro e w1 ⟨A1, rfl, hV1, hb1⟩; replace hB := hB.trans (hb1.mono hB.size); replace bS := bS.below hb1 bS.lt; replace bT := bT.below hb1 bT.lt; clear hb1)
        | (go_at_call 21; refine (S2.out _).mono ?_; rintro e w1 ⟨A1, rfl, hV1, hb1⟩; replace hB := hB.trans (hb1.mono hB.size); replace bS := bS.below hb1 bS.lt; replace bT := bT.below hb1 bT.lt; clear hb1)
        | (go_at_call 26; refine (S3.out _).mono ?_; rintro e w1 ⟨A1, rfl, hV1, hb1⟩; replace hB := hB.trans (hb1.mono hB.size); replace bS := bS.below hb1 bS.lt; replace bT := bT.below hb1 bT.lt; clear hb1)
        | (go_at_call 23; refine (P2.out _ (by decide) _ _ _ _ (by with_reducible first | exact Vw0.out | exact Vw1.out) _ _ hV1).mono ?_; rintro e w2 ⟨rfl, hb2⟩; replace hB := hB.trans (hb2.mono hB.size); replace bS := bS.below hb2 bS.lt; replace bT := bT.below hb2 bT.lt; clear hb2 hV1)
        | (go_at_call 24; refine (P3.out _ (by decide) _ _ _ (by with_reducible first | exact Vs0.out | exact Vs1.out) _ _ hV1).mono ?_; rintro e w2 ⟨rfl, hb2⟩; replace hB := hB.trans (hb2.mono hB.size); replace bS := bS.below hb2 bS.lt; replace bT := bT.below hb2 bT.lt; clear hb2 hV1)
        | (go_at_call 13; refine (P4.out _ (by decide) _ _ _ _ (by with_reducible first | exact Va0.out | exact Va1.out) _ _ hV1).mono ?_; rintro e w2 ⟨rfl, hb2⟩; replace hB := hB.trans (hb2.mono hB.size); replace bS := bS.below hb2 bS.lt; replace bT := bT.below hb2 bT.lt; clear hb2 hV1)
        | (go_at_call 15; refine (P5.out _ (by decide) _ _ _ _ (by with_reducible first | exact Vt0.out) _ _ hV1).mono ?_; rintro e w2 ⟨rfl, hb2⟩; replace hB := hB.trans (hb2.mono hB.size); replace bS := bS.below hb2 bS.lt; replace bT := bT.below hb2 bT.lt; clear hb2 hV1)
        | (go_at_call 17; refine (P6.out _ (by decide) _ _ (by with_reducible first | exact Vk0.out) _ _ hV1).mono ?_; rintro e w2 ⟨rfl, hb2⟩; replace hB := hB.trans (hb2.mono hB.size); replace bS := bS.below hb2 bS.lt; replace bT := bT.below hb2 bT.lt; clear hb2 hV1)
        | (go_at_call 25; refine (P7.out _ (by decide) _ _ _ (by with_reducible first | exact Vf0.out) _ _ hV1).mono ?_; rintro e w2 ⟨rfl, hb2⟩; replace hB := hB.trans (hb2.mono hB.size); replace bS := bS.below hb2 bS.lt; replace bT := bT.below hb2 bT.lt; clear hb2 hV1))
      have lS := bS.lt
      have lT := bT.lt
      refine Ord.wp_regionF [(0, 0), (1, 2), (2, 0), (3, 0), (4, 0), (5, 0), (6, 0), (7, 0), (8, 0), (9, 0), (10, 0), (11, 0), (12, 0), (13, 0), (14, 0), (15, 0), (16, 0), (17, 0), (18, 0), (19, 0), (20, 1), (21, 2), (22, 0), (23, 0), (24, 0), (25, 0), (26, 0), (27, 0), (28, 0), (29, 1), (30, 2), (31, 0), (32, 0), (33, 0), (34, 0), (35, 0), (36, 0), (37, 0), (38, 0), (39, 0), (40, 0), (41, 0), (42, 0), (43, 0), (44, 0), (45, 0), (46, 0), (47, 0), (48, 0), (49, 0), (50, 0), (51, 0), (52, 0), (53, 0), (54, 0), (55, 0), (56, 0), (57, 0), (58, 0), (59, 0), (60, 0), (61, 0), (62, 0), (63, 0), (64, 0), (65, 0), (66, 0), (67, 0), (68, 0), (69, 0), (70, 0), (71, 0), (72, 0), (73, 0)] (fun W' => Below w2.heap.size w2 W') (by kernel_rfl) (by kernel_rfl) (fun c a d v w h => by cases d <;> exact h) (Below.refl _ _).drew ?_
      go_wp2_with (first
        | ((with_reducible refine Ord.at_wild ?_); refine Ord.wild_load (ad := ⟨p, 0, none⟩) (.agg #[.int .i64 3, .int .i64 4]) rfl rfl ?_ ?_; (focus (intro W hW; exact loadVar_blk agg_span (bS.below hW (by omega)) rfl)); intro K hK)
        | (go_at_call 12; refine (HA.out _).mono ?_; rintro e w6 ⟨rfl, hb6⟩; refine at_stop ?_)
        | ((with_reducible refine Ord.at_calm ?_); refine Ord.calm_skip rfl ?_ (fun K hK => ?_); (focus (simp [Region.wanted, yielded]; done))) | with_reducible refine Ord.walk_calm rfl rfl (fun K hK => ?_) | ((with_reducible refine Ord.at_wild ?_); refine Ord.wild_fieldAddr rfl rfl (fun W => by simp [go_sem]; rfl) (fun K hK => ?_)) | ((with_reducible refine Ord.at_wild ?_); refine Ord.wild_move rfl rfl (fun K hK => ?_)) | ((with_reducible refine Ord.at_wild ?_); refine Ord.wild_nilCheck rfl rfl (fun K hK => ?_)) | with_reducible refine Ord.walk_eff rfl (by first | (simp; done) | assumption | (go_simp; done) | (repeat (first | assumption | exact Below.refl _ _ | refine Below.drew ?_ | refine Below.alloc ?_ (by first | omega | (simp; done) | (simp; omega)) _ | refine Below.setCell ?_ (by first | omega | (simp; done) | (simp; omega)) _ | refine Below.trans ?_ (Below.mono (by assumption) (by first | omega | (simp; done) | (simp; omega)))))) (fun K hK => ?_) | with_reducible refine Ord.at_fork ?_ ?_ | with_reducible refine Ord.walk_nil ?_ | (with_reducible refine Ord.next_of (by first | (simp; done) | (go_simp; done) | (repeat (first | assumption | exact Below.refl _ _ | refine Below.drew ?_ | refine Below.alloc ?_ (by first | omega | (simp; done) | (simp; omega)) _ | refine Below.setCell ?_ (by first | omega | (simp; done) | (simp; omega)) _ | refine Below.trans ?_ (Below.mono (by assumption) (by first | omega | (simp; done) | (simp; omega)))))) (fun _ => ?_)))
      unfold Stop
      have hb26 : Below w2.heap.size w2 w6 := (Below.refl _ _).drew.trans hb6
      clear hb6
      go_wp2_with (first
        | ((with_reducible refine Ord.at_wild ?_); refine Ord.wild_load (ad := ⟨p, 0, none⟩) (.agg #[.int .i64 3, .int .i64 4]) rfl rfl ?_ ?_; (focus (intro W hW; exact loadVar_blk agg_span (bS.below hW (by omega)) rfl)); intro K hK)
        | (go_at_call 20; refine (G.out _ _ _).mono ?_; rintro e w7 ⟨rfl, hb7⟩; refine at_stop ?_)
        | ((with_reducible refine Ord.at_calm ?_); refine Ord.calm_skip rfl ?_ (fun K hK => ?_); (focus (simp [Region.wanted, yielded]; done))) | with_reducible refine Ord.walk_calm rfl rfl (fun K hK => ?_) | ((with_reducible refine Ord.at_wild ?_); refine Ord.wild_fieldAddr rfl rfl (fun W => by simp [go_sem]; rfl) (fun K hK => ?_)) | ((with_reducible refine Ord.at_wild ?_); refine Ord.wild_move rfl rfl (fun K hK => ?_)) | ((with_reducible refine Ord.at_wild ?_); refine Ord.wild_nilCheck rfl rfl (fun K hK => ?_)) | with_reducible refine Ord.walk_eff rfl (by first | (simp; done) | assumption | (go_simp; done) | (repeat (first | assumption | exact Below.refl _ _ | refine Below.drew ?_ | refine Below.alloc ?_ (by first | omega | (simp; done) | (simp; omega)) _ | refine Below.setCell ?_ (by first | omega | (simp; done) | (simp; omega)) _ | refine Below.trans ?_ (Below.mono (by assumption) (by first | omega | (simp; done) | (simp; omega)))))) (fun K hK => ?_) | with_reducible refine Ord.at_fork ?_ ?_ | with_reducible refine Ord.walk_nil ?_ | (with_reducible refine Ord.next_of (by first | (simp; done) | (go_simp; done) | (repeat (first | assumption | exact Below.refl _ _ | refine Below.drew ?_ | refine Below.alloc ?_ (by first | omega | (simp; done) | (simp; omega)) _ | refine Below.setCell ?_ (by first | omega | (simp; done) | (simp; omega)) _ | refine Below.trans ?_ (Below.mono (by assumption) (by first | omega | (simp; done) | (simp; omega)))))) (fun _ => ?_)))
      unfold Stop
      have hb27 : Below w2.heap.size w2 w7 := hb26.trans (hb7.mono hb26.size)
      clear hb7 hb26
      go_wp2_with (first
        | ((with_reducible refine Ord.at_wild ?_); refine Ord.wild_load (ad := ⟨q, 0, none⟩) (.agg #[.int .i64 2, .int .i64 2]) rfl rfl ?_ ?_; (focus (intro W hW; exact loadVar_blk agg_span (bT.below hW (by omega)) rfl)); intro K hK)
        | (go_at_call 20; refine (G.out _ _ _).mono ?_; rintro e w8 ⟨rfl, hb8⟩; refine at_stop ?_)
        | ((with_reducible refine Ord.at_calm ?_); refine Ord.calm_skip rfl ?_ (fun K hK => ?_); (focus (simp [Region.wanted, yielded]; done))) | with_reducible refine Ord.walk_calm rfl rfl (fun K hK => ?_) | ((with_reducible refine Ord.at_wild ?_); refine Ord.wild_fieldAddr rfl rfl (fun W => by simp [go_sem]; rfl) (fun K hK => ?_)) | ((with_reducible refine Ord.at_wild ?_); refine Ord.wild_move rfl rfl (fun K hK => ?_)) | ((with_reducible refine Ord.at_wild ?_); refine Ord.wild_nilCheck rfl rfl (fun K hK => ?_)) | with_reducible refine Ord.walk_eff rfl (by first | (simp; done) | assumption | (go_simp; done) | (repeat (first | assumption | exact Below.refl _ _ | refine Below.drew ?_ | refine Below.alloc ?_ (by first | omega | (simp; done) | (simp; omega)) _ | refine Below.setCell ?_ (by first | omega | (simp; done) | (simp; omega)) _ | refine Below.trans ?_ (Below.mono (by assumption) (by first | omega | (simp; done) | (simp; omega)))))) (fun K hK => ?_) | with_reducible refine Ord.at_fork ?_ ?_ | with_reducible refine Ord.walk_nil ?_ | (with_reducible refine Ord.next_of (by first | (simp; done) | (go_simp; done) | (repeat (first | assumption | exact Below.refl _ _ | refine Below.drew ?_ | refine Below.alloc ?_ (by first | omega | (simp; done) | (simp; omega)) _ | refine Below.setCell ?_ (by first | omega | (simp; done) | (simp; omega)) _ | refine Below.trans ?_ (Below.mono (by assumption) (by first | omega | (simp; done) | (simp; omega)))))) (fun _ => ?_)))
      unfold Stop
      have hb28 : Below w2.heap.size w2 w8 := hb27.trans (hb8.mono hb27.size)
      have hBf : Below w.heap.size w w8 := hB.trans (hb28.mono hB.size)
      clear hb8 hb27
      go_wp2_with (first
        | ((with_reducible refine Ord.at_calm ?_); refine Ord.calm_skip rfl ?_ (fun K hK => ?_); (focus (simp [Region.wanted, yielded]; done))) | with_reducible refine Ord.walk_calm rfl rfl (fun K hK => ?_) | ((with_reducible refine Ord.at_wild ?_); refine Ord.wild_fieldAddr rfl rfl (fun W => by simp [go_sem]; rfl) (fun K hK => ?_)) | ((with_reducible refine Ord.at_wild ?_); refine Ord.wild_move rfl rfl (fun K hK => ?_)) | ((with_reducible refine Ord.at_wild ?_); refine Ord.wild_nilCheck rfl rfl (fun K hK => ?_)) | with_reducible refine Ord.walk_eff rfl (by first | (simp; done) | assumption | (go_simp; done) | (repeat (first | assumption | exact Below.refl _ _ | refine Below.drew ?_ | refine Below.alloc ?_ (by first | omega | (simp; done) | (simp; omega)) _ | refine Below.setCell ?_ (by first | omega | (simp; done) | (simp; omega)) _ | refine Below.trans ?_ (Below.mono (by assumption) (by first | omega | (simp; done) | (simp; omega)))))) (fun K hK => ?_) | with_reducible refine Ord.at_fork ?_ ?_ | with_reducible refine Ord.walk_nil ?_ | (with_reducible refine Ord.next_of (by first | (simp; done) | (go_simp; done) | (repeat (first | assumption | exact Below.refl _ _ | refine Below.drew ?_ | refine Below.alloc ?_ (by first | omega | (simp; done) | (simp; omega)) _ | refine Below.setCell ?_ (by first | omega | (simp; done) | (simp; omega)) _ | refine Below.trans ?_ (Below.mono (by assumption) (by first | omega | (simp; done) | (simp; omega)))))) (fun _ => ?_)))
      go_ret
      exact ⟨rfl, hBf⟩
end Go.Proofs.Yteeinehpneppnaa
