/- Parts of a proof: BnAV. -/
import Derived.Test.YtjbjmoghloabpaaM36
/- The law BeanNames walked. -/
set_option linter.unusedVariables false
set_option linter.unusedSimpArgs false
namespace Go.Proofs.Ytjbjmoghloabpaa
open Go.RowKit Go.Proofs
attribute [local irreducible] Ord.walk
set_option maxRecDepth 100000 in
theorem nv0 : whitesR secondB = (3, 3, 0) := by decide +kernel
set_option maxRecDepth 100000 in
theorem nv1 : passedR secondB = (2, 0) := by decide +kernel
set_option maxRecDepth 100000 in
theorem nv2 : whiteR sampleB 0 = (2, 0) := by decide +kernel
set_option maxRecDepth 100000 in
theorem nv3 : whiteR sampleB 2 = (1, 0) := by decide +kernel
set_option maxRecDepth 100000 in
theorem nv4 : knownR sampleB = (3, 0, 0) := by decide +kernel
set_option maxRecDepth 100000 in
theorem nv5 : sameR sampleB 0 1 = (2, 0) := by decide +kernel
set_option maxRecDepth 100000 in
theorem nv6 : sameR secondB 3 4 = (0, 0) := by decide +kernel
set_option maxRecDepth 100000 in
theorem nv7 : countR secondB = (2, 0) := by decide +kernel
set_option maxRecDepth 100000 in
theorem nv8 : countR clashBn = (0, 0) := by decide +kernel
set_option maxRecDepth 100000 in
theorem nv9 : tellR sampleB 3 = (3, 0, 0) := by decide +kernel
set_option maxRecDepth 100000 in
theorem nv10 : tellR sampleB 4 = (0, 0, 4) := by decide +kernel
set_option maxRecDepth 100000 in
theorem nv11 : clashR secondB = (0, 4) := by decide +kernel
set_option maxRecDepth 100000 in
theorem nv12 : knownR clashBn = (0, 0, 10) := by decide +kernel
set_option maxHeartbeats 4000000 in
set_option maxRecDepth 100000 in
theorem w_BeanNames (w : World) : Calls Try.prog 5 #[] w (Gives (.bool true) w) := by
  have S1 := Lib.hid l_sample
  have S2 := Lib.hid l_second
  have S3 := Lib.hid l_clash
  have HA := Lib.hid l_alive
  have G := Lib.hid l_span
  have P0 : Hid (∀ w base v, Vote w base secondB v → Calls Try.prog 14 #[v] w (Gives2 (.agg #[.int .i64 3, .int .i64 3]) (.int .i64 0) w)) := fun w base v h => by
    have := v_Whites h (by decide) (by decide); rwa [nv0] at this
  have P1 : Hid (∀ w base v, Vote w base secondB v → Calls Try.prog 20 #[v] w (Gives2 (.int .i64 2) (.int .i64 0) w)) := fun w base v h => by
    have := v_Passed h (by decide) (by decide); rwa [nv1] at this
  have P2 : Hid (∀ w base v, Vote w base sampleB v → Calls Try.prog 16 #[v, .int .i64 0] w (Gives2 (.int .i64 2) (.int .i64 0) w)) := fun w base v h => by
    have := v_White h (by decide) (by decide) 0; rwa [nv2] at this
  have P3 : Hid (∀ w base v, Vote w base sampleB v → Calls Try.prog 16 #[v, .int .i64 2] w (Gives2 (.int .i64 1) (.int .i64 0) w)) := fun w base v h => by
    have := v_White h (by decide) (by decide) 2; rwa [nv3] at this
  have P4 : Hid (∀ w base v, Vote w base sampleB v → Calls Try.prog 18 #[v] w (Gives3 (.int .i64 3) (.int .i64 0) (.int .i64 0) w)) := fun w base v h => by
    have := v_Known h (by decide) (by decide); rwa [nv4] at this
  have P5 : Hid (∀ w base v, Vote w base sampleB v → Calls Try.prog 22 #[v, .int .i64 0, .int .i64 1] w (Gives2 (.int .i64 2) (.int .i64 0) w)) := fun w base v h => by
    have := v_Same h (by decide) (by decide) 0 1; rwa [nv5] at this
  have P6 : Hid (∀ w base v, Vote w base secondB v → Calls Try.prog 22 #[v, .int .i64 3, .int .i64 4] w (Gives2 (.int .i64 0) (.int .i64 0) w)) := fun w base v h => by
    have := v_Same h (by decide) (by decide) 3 4; rwa [nv6] at this
  have P7 : Hid (∀ w base v, Vote w base secondB v → Calls Try.prog 24 #[v] w (Gives2 (.int .i64 2) (.int .i64 0) w)) := fun w base v h => by
    have := v_Count h (by decide) (by decide); rwa [nv7] at this
  have P8 : Hid (∀ w base v, Vote w base clashBn v → Calls Try.prog 24 #[v] w (Gives2 (.int .i64 0) (.int .i64 0) w)) := fun w base v h => by
    have := v_Count h (by decide) (by decide); rwa [nv8] at this
  have P9 : Hid (∀ w base v, Vote w base sampleB v → Calls Try.prog 26 #[v, .int .i64 3] w (Gives3 (.int .i64 3) (.int .i64 0) (.int .i64 0) w)) := fun w base v h => by
    have := v_Tell h (by decide) (by decide) 3; rwa [nv9] at this
  have P10 : Hid (∀ w base v, Vote w base sampleB v → Calls Try.prog 26 #[v, .int .i64 4] w (Gives3 (.int .i64 0) (.int .i64 0) (.int .i64 4) w)) := fun w base v h => by
    have := v_Tell h (by decide) (by decide) 4; rwa [nv10] at this
  have P11 : Hid (∀ w base v, Vote w base secondB v → Calls Try.prog 30 #[v] w (Gives2 (.int .i64 0) (.int .i64 4) w)) := fun w base v h => by
    have := v_Clash h (by decide) (by decide); rwa [nv11] at this
  have P12 : Hid (∀ w base v, Vote w base clashBn v → Calls Try.prog 18 #[v] w (Gives3 (.int .i64 0) (.int .i64 0) (.int .i64 10) w)) := fun w base v h => by
    have := v_Known h (by decide) (by decide); rwa [nv12] at this
  have hB := Below.refl w.heap.size w
  go_enter Try.func5, Try.ntmps5
  go_wp2_with (first
    | (go_at_call 32; refine (S2.out _).mono ?_; rintro e w1 ⟨v1, rfl, hV1, hb1⟩; replace hB := hB.trans (hb1.mono hB.size))
    | (go_at_call 14; refine (P0.out _ _ _ hV1).mono ?_; rintro e w2 ⟨rfl, hb2⟩; replace hB := hB.trans (hb2.mono hB.size))
    | (refine wpList_store_blk 23 (.tmp 1) (.tmp 34) agg_span rfl rfl rfl rfl (Blk.new _ _ _) rfl rfl (by simp [Value.oneCell']) ?_; intro w3 h3; refine at_stop ?_))
  unfold Stop
  have bS := h3.blk
  replace hB := h3.below (hB.alloc hB.size _) hB.size
  generalize hp : w2.heap.size = p at *
  clear h3 hb1 hb2 hV1
  go_wp2_with (first
    | (go_at_call 33; refine (S1.out _).mono ?_; rintro e w1 ⟨v1, rfl, hV1, hb1⟩; replace hB := hB.trans (hb1.mono hB.size); replace bS := bS.below hb1 bS.lt; clear hb1)
    | (go_at_call 32; refine (S2.out _).mono ?_; rintro e w1 ⟨v1, rfl, hV1, hb1⟩; replace hB := hB.trans (hb1.mono hB.size); replace bS := bS.below hb1 bS.lt; clear hb1)
    | (go_at_call 35; refine (S3.out _).mono ?_; rintro e w1 ⟨v1, rfl, hV1, hb1⟩; replace hB := hB.trans (hb1.mono hB.size); replace bS := bS.below hb1 bS.lt; clear hb1)
    | (go_at_call 20; refine ((by first | with_reducible exact P1.out _ _ _ hV1) : Calls _ _ _ _ _).mono ?_; rintro e w2 ⟨rfl, hb2⟩; replace hB := hB.trans (hb2.mono hB.size); replace bS := bS.below hb2 bS.lt; clear hb2 hV1)
    | (go_at_call 16; refine ((by first | with_reducible exact P2.out _ _ _ hV1 | with_reducible exact P3.out _ _ _ hV1) : Calls _ _ _ _ _).mono ?_; rintro e w2 ⟨rfl, hb2⟩; replace hB := hB.trans (hb2.mono hB.size); replace bS := bS.below hb2 bS.lt; clear hb2 hV1)
    | (go_at_call 18; refine ((by first | with_reducible exact P4.out _ _ _ hV1 | with_reducible exact P12.out _ _ _ hV1) : Calls _ _ _ _ _).mono ?_; rintro e w2 ⟨rfl, hb2⟩; replace hB := hB.trans (hb2.mono hB.size); replace bS := bS.below hb2 bS.lt; clear hb2 hV1)
    | (go_at_call 22; refine ((by first | with_reducible exact P5.out _ _ _ hV1 | with_reducible exact P6.out _ _ _ hV1) : Calls _ _ _ _ _).mono ?_; rintro e w2 ⟨rfl, hb2⟩; replace hB := hB.trans (hb2.mono hB.size); replace bS := bS.below hb2 bS.lt; clear hb2 hV1)
    | (go_at_call 24; refine ((by first | with_reducible exact P7.out _ _ _ hV1 | with_reducible exact P8.out _ _ _ hV1) : Calls _ _ _ _ _).mono ?_; rintro e w2 ⟨rfl, hb2⟩; replace hB := hB.trans (hb2.mono hB.size); replace bS := bS.below hb2 bS.lt; clear hb2 hV1)
    | (go_at_call 26; refine ((by first | with_reducible exact P9.out _ _ _ hV1 | with_reducible exact P10.out _ _ _ hV1) : Calls _ _ _ _ _).mono ?_; rintro e w2 ⟨rfl, hb2⟩; replace hB := hB.trans (hb2.mono hB.size); replace bS := bS.below hb2 bS.lt; clear hb2 hV1)
    | (go_at_call 30; refine ((by first | with_reducible exact P11.out _ _ _ hV1) : Calls _ _ _ _ _).mono ?_; rintro e w2 ⟨rfl, hb2⟩; replace hB := hB.trans (hb2.mono hB.size); replace bS := bS.below hb2 bS.lt; clear hb2 hV1)
    | (go_at_call 13; refine (HA.out _).mono ?_; rintro e w2 ⟨rfl, hb2⟩))
  refine Ord.wp_regionF [(0, 1), (1, 2), (2, 0), (3, 0), (4, 0), (5, 0), (6, 0), (7, 0), (8, 0), (9, 0), (10, 0), (11, 0), (12, 0), (13, 0), (14, 0), (15, 0), (16, 0), (17, 0), (18, 0), (19, 0), (20, 0), (21, 0), (22, 0), (23, 0), (24, 0), (25, 0), (26, 0), (27, 0), (28, 0), (29, 0), (30, 0), (31, 0), (32, 0), (33, 0), (34, 0), (35, 0), (36, 0), (37, 0), (38, 0), (39, 0), (40, 0), (41, 0), (42, 0), (43, 0), (44, 0), (45, 0), (46, 0), (47, 0), (48, 0), (49, 0), (50, 0), (51, 0), (52, 0), (53, 0), (54, 0), (55, 0), (56, 0), (57, 0), (58, 0)] (fun W => Below w2.heap.size w2 W) (by kernel_rfl) (by kernel_rfl) (fun c a d v w h => by cases d <;> exact h) (Below.refl _ _).drew ?_
  have lS := bS.lt
  go_wp2_with (first
    | ((with_reducible refine Ord.at_wild ?_); refine Ord.wild_load (ad := ⟨p, 0, none⟩) (.agg #[.int .i64 3, .int .i64 3]) rfl rfl ?_ ?_; (focus (intro W hW; exact loadVar_blk agg_span (bS.below hW (by omega)) rfl)); intro K hK)
    | (go_at_call 34; refine (G.out _ _ _).mono ?_; rintro e w4 ⟨rfl, hb4⟩; refine at_stop ?_)
    | ((with_reducible refine Ord.at_calm ?_); refine Ord.calm_skip rfl ?_ (fun K hK => ?_); (focus (simp [Region.wanted, yielded]; done))) | with_reducible refine Ord.walk_calm rfl rfl (fun K hK => ?_) | ((with_reducible refine Ord.at_wild ?_); refine Ord.wild_fieldAddr rfl rfl (fun W => by simp [go_sem]; rfl) (fun K hK => ?_)) | ((with_reducible refine Ord.at_wild ?_); refine Ord.wild_move rfl rfl (fun K hK => ?_)) | ((with_reducible refine Ord.at_wild ?_); refine Ord.wild_nilCheck rfl rfl (fun K hK => ?_)) | with_reducible refine Ord.walk_eff rfl (by first | (simp; done) | assumption | (go_simp; done) | (repeat (first | assumption | exact Below.refl _ _ | refine Below.drew ?_ | refine Below.alloc ?_ (by first | omega | (simp; done) | (simp; omega)) _ | refine Below.setCell ?_ (by first | omega | (simp; done) | (simp; omega)) _ | refine Below.trans ?_ (Below.mono (by assumption) (by first | omega | (simp; done) | (simp; omega)))))) (fun K hK => ?_) | with_reducible refine Ord.at_fork ?_ ?_ | with_reducible refine Ord.walk_nil ?_ | (with_reducible refine Ord.next_of (by first | (simp; done) | (go_simp; done) | (repeat (first | assumption | exact Below.refl _ _ | refine Below.drew ?_ | refine Below.alloc ?_ (by first | omega | (simp; done) | (simp; omega)) _ | refine Below.setCell ?_ (by first | omega | (simp; done) | (simp; omega)) _ | refine Below.trans ?_ (Below.mono (by assumption) (by first | omega | (simp; done) | (simp; omega)))))) (fun _ => ?_)))
  unfold Stop
  have hb24 : Below w2.heap.size w2 w4 := (Below.refl _ _).drew.trans hb4
  replace hB := hB.trans (hb24.mono hB.size)
  replace bS := bS.below hb24 bS.lt
  clear lS hb4
  go_wp2_with (first
    | ((with_reducible refine Ord.at_calm ?_); refine Ord.calm_skip rfl ?_ (fun K hK => ?_); (focus (simp [Region.wanted, yielded]; done))) | with_reducible refine Ord.walk_calm rfl rfl (fun K hK => ?_) | ((with_reducible refine Ord.at_wild ?_); refine Ord.wild_fieldAddr rfl rfl (fun W => by simp [go_sem]; rfl) (fun K hK => ?_)) | ((with_reducible refine Ord.at_wild ?_); refine Ord.wild_move rfl rfl (fun K hK => ?_)) | ((with_reducible refine Ord.at_wild ?_); refine Ord.wild_nilCheck rfl rfl (fun K hK => ?_)) | with_reducible refine Ord.walk_eff rfl (by first | (simp; done) | assumption | (go_simp; done) | (repeat (first | assumption | exact Below.refl _ _ | refine Below.drew ?_ | refine Below.alloc ?_ (by first | omega | (simp; done) | (simp; omega)) _ | refine Below.setCell ?_ (by first | omega | (simp; done) | (simp; omega)) _ | refine Below.trans ?_ (Below.mono (by assumption) (by first | omega | (simp; done) | (simp; omega)))))) (fun K hK => ?_) | with_reducible refine Ord.at_fork ?_ ?_ | with_reducible refine Ord.walk_nil ?_ | (with_reducible refine Ord.next_of (by first | (simp; done) | (go_simp; done) | (repeat (first | assumption | exact Below.refl _ _ | refine Below.drew ?_ | refine Below.alloc ?_ (by first | omega | (simp; done) | (simp; omega)) _ | refine Below.setCell ?_ (by first | omega | (simp; done) | (simp; omega)) _ | refine Below.trans ?_ (Below.mono (by assumption) (by first | omega | (simp; done) | (simp; omega)))))) (fun _ => ?_)))
  go_wp2_with (first
    | (go_at_call 33; refine (S1.out _).mono ?_; rintro e w1 ⟨v1, rfl, hV1, hb1⟩; replace hB := hB.trans (hb1.mono hB.size); replace bS := bS.below hb1 bS.lt; clear hb1)
    | (go_at_call 32; refine (S2.out _).mono ?_; rintro e w1 ⟨v1, rfl, hV1, hb1⟩; replace hB := hB.trans (hb1.mono hB.size); replace bS := bS.below hb1 bS.lt; clear hb1)
    | (go_at_call 35; refine (S3.out _).mono ?_; rintro e w1 ⟨v1, rfl, hV1, hb1⟩; replace hB := hB.trans (hb1.mono hB.size); replace bS := bS.below hb1 bS.lt; clear hb1)
    | (go_at_call 20; refine ((by first | with_reducible exact P1.out _ _ _ hV1) : Calls _ _ _ _ _).mono ?_; rintro e w2 ⟨rfl, hb2⟩; replace hB := hB.trans (hb2.mono hB.size); replace bS := bS.below hb2 bS.lt; clear hb2 hV1)
    | (go_at_call 16; refine ((by first | with_reducible exact P2.out _ _ _ hV1 | with_reducible exact P3.out _ _ _ hV1) : Calls _ _ _ _ _).mono ?_; rintro e w2 ⟨rfl, hb2⟩; replace hB := hB.trans (hb2.mono hB.size); replace bS := bS.below hb2 bS.lt; clear hb2 hV1)
    | (go_at_call 18; refine ((by first | with_reducible exact P4.out _ _ _ hV1 | with_reducible exact P12.out _ _ _ hV1) : Calls _ _ _ _ _).mono ?_; rintro e w2 ⟨rfl, hb2⟩; replace hB := hB.trans (hb2.mono hB.size); replace bS := bS.below hb2 bS.lt; clear hb2 hV1)
    | (go_at_call 22; refine ((by first | with_reducible exact P5.out _ _ _ hV1 | with_reducible exact P6.out _ _ _ hV1) : Calls _ _ _ _ _).mono ?_; rintro e w2 ⟨rfl, hb2⟩; replace hB := hB.trans (hb2.mono hB.size); replace bS := bS.below hb2 bS.lt; clear hb2 hV1)
    | (go_at_call 24; refine ((by first | with_reducible exact P7.out _ _ _ hV1 | with_reducible exact P8.out _ _ _ hV1) : Calls _ _ _ _ _).mono ?_; rintro e w2 ⟨rfl, hb2⟩; replace hB := hB.trans (hb2.mono hB.size); replace bS := bS.below hb2 bS.lt; clear hb2 hV1)
    | (go_at_call 26; refine ((by first | with_reducible exact P9.out _ _ _ hV1 | with_reducible exact P10.out _ _ _ hV1) : Calls _ _ _ _ _).mono ?_; rintro e w2 ⟨rfl, hb2⟩; replace hB := hB.trans (hb2.mono hB.size); replace bS := bS.below hb2 bS.lt; clear hb2 hV1)
    | (go_at_call 30; refine ((by first | with_reducible exact P11.out _ _ _ hV1) : Calls _ _ _ _ _).mono ?_; rintro e w2 ⟨rfl, hb2⟩; replace hB := hB.trans (hb2.mono hB.size); replace bS := bS.below hb2 bS.lt; clear hb2 hV1)
    | (go_at_call 13; refine (HA.out _).mono ?_; rintro e w2 ⟨rfl, hb2⟩))
  go_ret
  exact ⟨rfl, hB.trans (hb2.mono hB.size)⟩
end Go.Proofs.Ytjbjmoghloabpaa
