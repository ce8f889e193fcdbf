/- Parts of a proof: OrdF, BnAR, BnAT. -/
import Derived.Test.YtjbjmoghloabpaaM01
import Derived.Test.YtjbjmoghloabpaaM35
/- Drawn regions that are long: an operation that is the only one that is ready needs no look ahead. -/
set_option linter.unusedVariables false
set_option linter.unusedSimpArgs false
namespace Go.Ord
variable {P : Program} {ops : Array Oper} {Q : Exit → Act → World → Prop} {H : World → Prop} {eff : Nat → Bool}
def planF (ops : Array Oper) (eff : Nat → Bool) : List (Nat × Nat) → Array Bool → Bool
  | [], listed => (Region.ready .any ops listed).isEmpty
  | (k, c) :: l, listed =>
    (if eff k then c == 2 && decide (Region.ready .any ops listed = [k])
     else decide (c < 2) && (decide (Region.ready .any ops listed = [k]) || ((Region.ready .any ops listed).contains k && Region.free .any ops listed k && (c == 1 || calm ops eff k listed)))) &&
    planF ops eff l (listed.setIfInBounds k true)
def planOkF (ops : Array Oper) (l : List (Nat × Nat)) : Bool :=
  Region.noSelect ops && l.length == ops.size && planF ops (fun i => l.any fun (k, c) => k == i && c == 2) l (Array.replicate ops.size false)
theorem any_of_walkF (hs : Region.noSelect ops = true) (hQ : ∀ c a d v w, Q (.panic c) (a.put d v) w → Q (.panic c) a w) : ∀ (l : List (Nat × Nat)) (listed : Array Bool) (a : Act) (w : World), listed.size = ops.size → H w →
    planF ops eff l listed = true → walk P ops H Q l a w → any P ops eff H Q l.length listed a w
  | [], _, _, _, _, _, hB, h => ⟨by simpa [planF] using hB, h⟩
  | (k, c) :: l, listed, a, w, hsz, hw, hB, h => by
    rw [planF, Bool.and_eq_true] at hB
    obtain ⟨hB, hB'⟩ := hB
    rw [walk] at h
    cases ho : ops[k]? with
    | none => simp only [ho] at h
    | some o =>
      simp only [ho] at h
      have hsz' : (listed.setIfInBounds k true).size = ops.size := by simp [hsz]
      have ih : ∀ a w, H w → walk P ops H Q l a w → any P ops eff H Q l.length (listed.setIfInBounds k true) a w := fun a w h1 h2 => any_of_walkF hs hQ l _ a w hsz' h1 hB' h2
      cases he : eff k with
      | true =>
        simp only [he, if_true, Bool.and_eq_true, beq_iff_eq, decide_eq_true_eq] at hB
        obtain ⟨rfl, hr⟩ := hB
        refine ⟨fun h0 => (by rw [h0] at hr; cases hr), fun j hj => ?_⟩
        rw [hr] at hj
        have hjk : j = k := by simpa using hj
        subst hjk
        unfold op
        simp only [ho, he, if_true]
        split
        · rename_i hwt
          simp only [hwt, if_true] at h
          exact h.imp (Oper.wp_mono (fun a w hk => ⟨hk.1, ih a w hk.1 hk.2⟩)) id
        · rename_i hwt
          simp only [hwt] at h
          exact ih _ _ hw h
      | false =>
        simp only [he, Bool.false_eq_true, if_false, Bool.and_eq_true, Bool.or_eq_true, beq_iff_eq, decide_eq_true_eq] at hB
        obtain ⟨hc2, hone | ⟨⟨hr, hf⟩, hcc⟩⟩ := hB
        · refine ⟨fun h0 => (by rw [h0] at hone; cases hone), fun j hj => ?_⟩
          rw [hone] at hj
          have hjk : j = k := by simpa using hj
          subst hjk
          unfold op
          simp only [ho, he, Bool.false_eq_true, if_false]
          split
          · rename_i hwt
            simp only [hwt, if_true] at h
            match c, hc2, h with
            | 0, _, h =>
              obtain ⟨v, h1, h2⟩ := h
              exact ⟨v, h1, ih _ _ hw h2⟩
            | 1, _, h =>
              obtain ⟨v, h1, h2⟩ := h
              exact ⟨v, h1 w hw, ih _ _ hw h2⟩
            | (n + 2), hc2, _ => exact absurd hc2 (by omega)
          · rename_i hwt
            simp only [hwt] at h
            exact ih _ _ hw h
        have hr' : k ∈ Region.ready .any ops listed := by simpa using hr
        by_cases hwt : Region.wanted o (yielded ops a.tmps) = true
        · simp only [hwt, if_true] at h
          match c, hc2, h with
          | 0, _, h =>
            obtain ⟨v, h1, h2⟩ := h
            have hcalm : calm ops eff k listed = true := hcc.resolve_left (by simp)
            obtain ⟨L, hL⟩ := calm_spec hsz hcalm
            exact any_calm ho he (Region.noSelect_spec hs) (fun c a w => hQ c a _ _ w) l.length listed a hL (Region.free_spec ho hf) hr' (.inl ⟨hwt, fun w' e => by subst e; exact h1⟩) (ih _ _ hw h2)
          | 1, _, h =>
            obtain ⟨v, h1, h2⟩ := h
            exact any_first ho he (Region.noSelect_spec hs) (fun c a w => hQ c a _ _ w) l.length listed a w hw (Region.free_spec ho hf) hr' (.inl ⟨hwt, h1⟩) (ih _ _ hw h2)
          | (n + 2), hc2, _ => exact absurd hc2 (by omega)
        · have hwt' : Region.wanted o (yielded ops a.tmps) = false := by simpa using hwt
          simp only [hwt', Bool.false_eq_true, if_false] at h
          exact any_first ho he (Region.noSelect_spec hs) (fun c a w => hQ c a _ _ w) l.length listed a w hw (Region.free_spec ho hf) hr' (.inr ⟨hwt', rfl⟩) (ih _ _ hw h)
theorem wp_regionF {id : Nat} {a : Act} {w : World} {lo : List Oper} (l : List (Nat × Nat)) (H : World → Prop) (hm : P.follows .mixedOrders = true) (hp : planOkF lo.toArray l = true)
    (hQ : ∀ c a d v w, Q (.panic c) (a.put d v) w → Q (.panic c) a w) (hH : H w.drew) (h : walk P lo.toArray H Q l a w.drew) : (Code.region id lo.toArray true).wp P Q a w := by
  simp only [planOkF, Bool.and_eq_true, beq_iff_eq] at hp
  obtain ⟨⟨hs, hl⟩, hp⟩ := hp
  refine wp_region_any hm (wpAny_of_any (H := H) (eff := fun i => l.any fun (k, c) => k == i && c == 2) _ _ _ _ ?_)
  have h2 := any_of_walkF (H := H) (eff := fun i => l.any fun (k, c) => k == i && c == 2) hs hQ l (Array.replicate lo.toArray.size false) a _ (by simp) hH hp h
  rw [hl] at h2
  exact h2
end Go.Ord
/- What the chapter fixes: the law's alive. -/
set_option linter.unusedVariables false
set_option linter.unusedSimpArgs false
namespace Go.Proofs.Ytjbjmoghloabpaa
open Go.RowKit Go.Proofs
attribute [local irreducible] Ord.walk
section
variable {b : Bn} {base : Nat} {v : Value} {w : World} (h : Vote w base b v) (hgl : b.gs.length ≤ 40) (hpl : b.ps.length ≤ 40)
include h hgl hpl
theorem v_Whites : Calls Try.prog 14 #[v] w (Gives2 (.agg #[.int .i64 (whitesR b).1, .int .i64 (whitesR b).2.1]) (.int .i64 (whitesR b).2.2) w) := by
  obtain ⟨ga, gc, pa, pc, rfl, hg, hp⟩ := h.bv
  exact bb_Whites b ga gc pa pc w hg hp hgl hpl
theorem v_White (n : Int) : Calls Try.prog 16 #[v, .int .i64 n] w (Gives2 (.int .i64 (whiteR b n).1) (.int .i64 (whiteR b n).2) w) := by
  obtain ⟨ga, gc, pa, pc, rfl, hg, hp⟩ := h.bv
  exact bb_White b ga gc pa pc w hg hp hgl hpl n
theorem v_Known : Calls Try.prog 18 #[v] w (Gives3 (.int .i64 (knownR b).1) (.int .i64 (knownR b).2.1) (.int .i64 (knownR b).2.2) w) := by
  obtain ⟨ga, gc, pa, pc, rfl, hg, hp⟩ := h.bv
  exact bb_Known b ga gc pa pc w hg hp hgl hpl
theorem v_Passed : Calls Try.prog 20 #[v] w (Gives2 (.int .i64 (passedR b).1) (.int .i64 (passedR b).2) w) := by
  obtain ⟨ga, gc, pa, pc, rfl, hg, hp⟩ := h.bv
  exact bb_Passed b ga gc pa pc w hg hp hgl hpl
theorem v_Same (n m : Int) : Calls Try.prog 22 #[v, .int .i64 n, .int .i64 m] w (Gives2 (.int .i64 (sameR b n m).1) (.int .i64 (sameR b n m).2) w) := by
  obtain ⟨ga, gc, pa, pc, rfl, hg, hp⟩ := h.bv
  exact bb_Same b ga gc pa pc w hg hp hgl hpl n m
theorem v_Count : Calls Try.prog 24 #[v] w (Gives2 (.int .i64 (countR b).1) (.int .i64 (countR b).2) w) := by
  obtain ⟨ga, gc, pa, pc, rfl, hg, hp⟩ := h.bv
  exact bb_Count b ga gc pa pc w hg hp hgl hpl
theorem v_Tell (n : Int) : Calls Try.prog 26 #[v, .int .i64 n] w (Gives3 (.int .i64 (tellR b n).1) (.int .i64 (tellR b n).2.1) (.int .i64 (tellR b n).2.2) w) := by
  obtain ⟨ga, gc, pa, pc, rfl, hg, hp⟩ := h.bv
  exact bb_Tell b ga gc pa pc w hg hp hgl hpl n
theorem v_Quiet : Calls Try.prog 28 #[v] w (Gives2 (.int .i64 (quietR b).1) (.int .i64 (quietR b).2) w) := by
  obtain ⟨ga, gc, pa, pc, rfl, hg, hp⟩ := h.bv
  exact bb_Quiet b ga gc pa pc w hg hp hgl hpl
theorem v_Clash : Calls Try.prog 30 #[v] w (Gives2 (.int .i64 (clashR b).1) (.int .i64 (clashR b).2) w) := by
  obtain ⟨ga, gc, pa, pc, rfl, hg, hp⟩ := h.bv
  exact bb_Clash b ga gc pa pc w hg hp hgl hpl
end
set_option maxRecDepth 100000 in
theorem alive_values : whitesR sampleB = (2, 3, 0) ∧ whiteR secondB 2 = (0, 0) ∧ knownR secondB = (3, 4, 0) ∧ passedR sampleB = (1, 0) ∧ sameR sampleB 3 4 = (1, 0) ∧ countR sampleB = (4, 0) ∧ tellR sampleB 2 = (3, 28, 0) ∧ quietR sampleB = (8, 0) ∧ clashR clashBn = (28, 0) := by
  refine ⟨?_, ?_, ?_, ?_, ?_, ?_, ?_, ?_, ?_⟩ <;> decide +kernel

set_option maxHeartbeats 4000000 in
set_option maxRecDepth 100000 in
theorem l_alive (w : World) : Calls Try.prog 13 #[] w (Gives (.bool true) w) := by
  have S1 := Lib.hid l_sample
  have S2 := Lib.hid l_second
  have S3 := Lib.hid l_clash
  have P1 : Hid (∀ w base v, Vote w base sampleB v → Calls Try.prog 14 #[v] w (Gives2 (.agg #[.int .i64 2, .int .i64 3]) (.int .i64 0) w)) := fun w base v h => by
    have := v_Whites h (by decide) (by decide); rwa [alive_values.1] at this
  have P2 : Hid (∀ w base v, Vote w base secondB v → Calls Try.prog 16 #[v, .int .i64 2] w (Gives2 (.int .i64 0) (.int .i64 0) w)) := fun w base v h => by
    have := v_White h (by decide) (by decide) 2; rwa [alive_values.2.1] at this
  have P3 : Hid (∀ w base v, Vote w base secondB v → Calls Try.prog 18 #[v] w (Gives3 (.int .i64 3) (.int .i64 4) (.int .i64 0) w)) := fun w base v h => by
    have := v_Known h (by decide) (by decide); rwa [alive_values.2.2.1] at this
  have P4 : Hid (∀ w base v, Vote w base sampleB v → Calls Try.prog 20 #[v] w (Gives2 (.int .i64 1) (.int .i64 0) w)) := fun w base v h => by
    have := v_Passed h (by decide) (by decide); rwa [alive_values.2.2.2.1] at this
  have P5 : Hid (∀ w base v, Vote w base sampleB v → Calls Try.prog 22 #[v, .int .i64 3, .int .i64 4] w (Gives2 (.int .i64 1) (.int .i64 0) w)) := fun w base v h => by
    have := v_Same h (by decide) (by decide) 3 4; rwa [alive_values.2.2.2.2.1] at this
  have P6 : Hid (∀ w base v, Vote w base sampleB v → Calls Try.prog 24 #[v] w (Gives2 (.int .i64 4) (.int .i64 0) w)) := fun w base v h => by
    have := v_Count h (by decide) (by decide); rwa [alive_values.2.2.2.2.2.1] at this
  have P7 : Hid (∀ w base v, Vote w base sampleB v → Calls Try.prog 26 #[v, .int .i64 2] w (Gives3 (.int .i64 3) (.int .i64 28) (.int .i64 0) w)) := fun w base v h => by
    have := v_Tell h (by decide) (by decide) 2; rwa [alive_values.2.2.2.2.2.2.1] at this
  have P8 : Hid (∀ w base v, Vote w base sampleB v → Calls Try.prog 28 #[v] w (Gives2 (.int .i64 8) (.int .i64 0) w)) := fun w base v h => by
    have := v_Quiet h (by decide) (by decide); rwa [alive_values.2.2.2.2.2.2.2.1] at this
  have P9 : Hid (∀ w base v, Vote w base clashBn v → Calls Try.prog 30 #[v] w (Gives2 (.int .i64 28) (.int .i64 0) w)) := fun w base v h => by
    have := v_Clash h (by decide) (by decide); rwa [alive_values.2.2.2.2.2.2.2.2] at this
  have G := Lib.hid l_span
  have hB := Below.refl w.heap.size w
  go_enter Try.func13, Try.ntmps13
  go_wp2_with (first
    | (go_at_call 33; refine (S1.out _).mono ?_; rintro e w1 ⟨v1, rfl, hV1, hb1⟩; replace hB := hB.trans (hb1.mono hB.size))
    | (go_at_call 14; refine (P1.out _ _ _ hV1).mono ?_; rintro e w2 ⟨rfl, hb2⟩; replace hB := hB.trans (hb2.mono hB.size))
    | (refine wpList_store_blk 23 (.tmp 1) (.tmp 24) agg_span rfl rfl rfl rfl (Blk.new _ _ _) rfl rfl (by simp [Value.oneCell']) ?_; intro w3 h3; refine at_stop ?_))
  unfold Stop
  have bS := h3.blk
  replace hB := h3.below (hB.alloc hB.size _) hB.size
  generalize hp : w2.heap.size = p at *
  clear h3 hb1 hb2 hV1
  go_wp2_with (first
    | (go_at_call 33; refine (S1.out _).mono ?_; rintro e w1 ⟨v1, rfl, hV1, hb1⟩; replace hB := hB.trans (hb1.mono hB.size); replace bS := bS.below hb1 bS.lt; clear hb1)
    | (go_at_call 32; refine (S2.out _).mono ?_; rintro e w1 ⟨v1, rfl, hV1, hb1⟩; replace hB := hB.trans (hb1.mono hB.size); replace bS := bS.below hb1 bS.lt; clear hb1)
    | (go_at_call 35; refine (S3.out _).mono ?_; rintro e w1 ⟨v1, rfl, hV1, hb1⟩; replace hB := hB.trans (hb1.mono hB.size); replace bS := bS.below hb1 bS.lt; clear hb1)
    | (go_at_call 16; refine (P2.out _ _ _ hV1).mono ?_; rintro e w2 ⟨rfl, hb2⟩; replace hB := hB.trans (hb2.mono hB.size); replace bS := bS.below hb2 bS.lt; clear hb2 hV1)
    | (go_at_call 18; refine (P3.out _ _ _ hV1).mono ?_; rintro e w2 ⟨rfl, hb2⟩; replace hB := hB.trans (hb2.mono hB.size); replace bS := bS.below hb2 bS.lt; clear hb2 hV1)
    | (go_at_call 20; refine (P4.out _ _ _ hV1).mono ?_; rintro e w2 ⟨rfl, hb2⟩; replace hB := hB.trans (hb2.mono hB.size); replace bS := bS.below hb2 bS.lt; clear hb2 hV1)
    | (go_at_call 22; refine (P5.out _ _ _ hV1).mono ?_; rintro e w2 ⟨rfl, hb2⟩; replace hB := hB.trans (hb2.mono hB.size); replace bS := bS.below hb2 bS.lt; clear hb2 hV1)
    | (go_at_call 24; refine (P6.out _ _ _ hV1).mono ?_; rintro e w2 ⟨rfl, hb2⟩; replace hB := hB.trans (hb2.mono hB.size); replace bS := bS.below hb2 bS.lt; clear hb2 hV1)
    | (go_at_call 26; refine (P7.out _ _ _ hV1).mono ?_; rintro e w2 ⟨rfl, hb2⟩; replace hB := hB.trans (hb2.mono hB.size); replace bS := bS.below hb2 bS.lt; clear hb2 hV1)
    | (go_at_call 28; refine (P8.out _ _ _ hV1).mono ?_; rintro e w2 ⟨rfl, hb2⟩; replace hB := hB.trans (hb2.mono hB.size); replace bS := bS.below hb2 bS.lt; clear hb2 hV1)
    | (go_at_call 30; refine (P9.out _ _ _ hV1).mono ?_; rintro e w2 ⟨rfl, hb2⟩; replace hB := hB.trans (hb2.mono hB.size); replace bS := bS.below hb2 bS.lt; clear hb2 hV1))
  refine Ord.wp_regionF [(0, 1), (1, 2), (2, 0), (3, 0), (4, 0), (5, 0), (6, 0), (7, 0), (8, 0), (9, 0), (10, 0), (11, 0), (12, 0), (13, 0), (14, 0), (15, 0), (16, 0), (17, 0), (18, 0), (19, 0), (20, 0), (21, 0), (22, 0), (23, 0), (24, 0), (25, 0), (26, 0), (27, 0), (28, 0), (29, 0), (30, 0), (31, 0), (32, 0), (33, 0), (34, 0), (35, 0), (36, 0), (37, 0), (38, 0), (39, 0), (40, 0), (41, 0), (42, 0), (43, 0), (44, 0), (45, 0), (46, 0), (47, 0), (48, 0), (49, 0), (50, 0), (51, 0), (52, 0), (53, 0), (54, 0), (55, 0), (56, 0), (57, 0), (58, 0), (59, 0), (60, 0), (61, 0), (62, 0), (63, 0), (64, 0), (65, 0), (66, 0), (67, 0), (68, 0), (69, 0), (70, 0), (71, 0), (72, 0), (73, 0), (74, 0), (75, 0), (76, 0), (77, 0), (78, 0), (79, 0)] (fun W => Below w2.heap.size w2 W) (by kernel_rfl) (by kernel_rfl) (fun c a d v w h => by cases d <;> exact h) (Below.refl _ _).drew ?_
  have lS := bS.lt
  go_wp2_with (first
    | ((with_reducible refine Ord.at_wild ?_); refine Ord.wild_load (ad := ⟨p, 0, none⟩) (.agg #[.int .i64 2, .int .i64 3]) rfl rfl ?_ ?_; (focus (intro W hW; exact loadVar_blk agg_span (bS.below hW (by omega)) rfl)); intro K hK)
    | (go_at_call 34; refine (G.out _ _ _).mono ?_; rintro e w4 ⟨rfl, hb4⟩; refine at_stop ?_)
    | ((with_reducible refine Ord.at_calm ?_); refine Ord.calm_skip rfl ?_ (fun K hK => ?_); (focus (simp [Region.wanted, yielded]; done))) | with_reducible refine Ord.walk_calm rfl rfl (fun K hK => ?_) | ((with_reducible refine Ord.at_wild ?_); refine Ord.wild_fieldAddr rfl rfl (fun W => by simp [go_sem]; rfl) (fun K hK => ?_)) | ((with_reducible refine Ord.at_wild ?_); refine Ord.wild_move rfl rfl (fun K hK => ?_)) | ((with_reducible refine Ord.at_wild ?_); refine Ord.wild_nilCheck rfl rfl (fun K hK => ?_)) | with_reducible refine Ord.walk_eff rfl (by first | (simp; done) | assumption | (go_simp; done) | (repeat (first | assumption | exact Below.refl _ _ | refine Below.drew ?_ | refine Below.alloc ?_ (by first | omega | (simp; done) | (simp; omega)) _ | refine Below.setCell ?_ (by first | omega | (simp; done) | (simp; omega)) _ | refine Below.trans ?_ (Below.mono (by assumption) (by first | omega | (simp; done) | (simp; omega)))))) (fun K hK => ?_) | with_reducible refine Ord.at_fork ?_ ?_ | with_reducible refine Ord.walk_nil ?_ | (with_reducible refine Ord.next_of (by first | (simp; done) | (go_simp; done) | (repeat (first | assumption | exact Below.refl _ _ | refine Below.drew ?_ | refine Below.alloc ?_ (by first | omega | (simp; done) | (simp; omega)) _ | refine Below.setCell ?_ (by first | omega | (simp; done) | (simp; omega)) _ | refine Below.trans ?_ (Below.mono (by assumption) (by first | omega | (simp; done) | (simp; omega)))))) (fun _ => ?_)))
  unfold Stop
  have hB4 : Below w.heap.size w w4 := hB.trans (((Below.refl _ _).drew.trans hb4).mono hB.size)
  have hb24 : Below w2.heap.size w2 w4 := (Below.refl _ _).drew.trans hb4
  clear hb4
  go_wp2_with (first
    | ((with_reducible refine Ord.at_calm ?_); refine Ord.calm_skip rfl ?_ (fun K hK => ?_); (focus (simp [Region.wanted, yielded]; done))) | with_reducible refine Ord.walk_calm rfl rfl (fun K hK => ?_) | ((with_reducible refine Ord.at_wild ?_); refine Ord.wild_fieldAddr rfl rfl (fun W => by simp [go_sem]; rfl) (fun K hK => ?_)) | ((with_reducible refine Ord.at_wild ?_); refine Ord.wild_move rfl rfl (fun K hK => ?_)) | ((with_reducible refine Ord.at_wild ?_); refine Ord.wild_nilCheck rfl rfl (fun K hK => ?_)) | with_reducible refine Ord.walk_eff rfl (by first | (simp; done) | assumption | (go_simp; done) | (repeat (first | assumption | exact Below.refl _ _ | refine Below.drew ?_ | refine Below.alloc ?_ (by first | omega | (simp; done) | (simp; omega)) _ | refine Below.setCell ?_ (by first | omega | (simp; done) | (simp; omega)) _ | refine Below.trans ?_ (Below.mono (by assumption) (by first | omega | (simp; done) | (simp; omega)))))) (fun K hK => ?_) | with_reducible refine Ord.at_fork ?_ ?_ | with_reducible refine Ord.walk_nil ?_ | (with_reducible refine Ord.next_of (by first | (simp; done) | (go_simp; done) | (repeat (first | assumption | exact Below.refl _ _ | refine Below.drew ?_ | refine Below.alloc ?_ (by first | omega | (simp; done) | (simp; omega)) _ | refine Below.setCell ?_ (by first | omega | (simp; done) | (simp; omega)) _ | refine Below.trans ?_ (Below.mono (by assumption) (by first | omega | (simp; done) | (simp; omega)))))) (fun _ => ?_)))
  go_ret
  exact ⟨rfl, hB4⟩
end Go.Proofs.Ytjbjmoghloabpaa
/- The laws BeanTells and BeanSets walked. -/
set_option linter.unusedVariables false
set_option linter.unusedSimpArgs false
namespace Go.Proofs.Ytjbjmoghloabpaa
open Go.RowKit Go.Proofs
attribute [local irreducible] Ord.walk
def longB (b : Bn) : Bool := decide (40 < (max b.gs.length b.ps.length : Nat))
theorem l_long (b : Bn) (ga : Option Addr) (gc : Nat) (pa : Option Addr) (pc : Nat) (w : World) (hgl : b.gs.length ≤ maxLen) (hpl : b.ps.length ≤ maxLen) :
    Calls Try.prog 12 #[bv b ga gc pa pc] w (Gives (.bool (longB b)) w) := by
  unfold bv longB
  generalize b.gs.length = n at *
  generalize b.ps.length = m at *
  go_enter Try.func12, Try.ntmps12
  go_wp2
  all_goals go_ret
  all_goals (refine ⟨ret_bool ?_, (Below.refl _ _).alloc (Nat.le_refl _) _⟩; rw [Bool.eq_iff_iff]; simp only [decide_eq_true_eq]; omega)
set_option maxHeartbeats 4000000 in
set_option maxRecDepth 100000 in
theorem w_BeanTells (b : Bn) (ga : Option Addr) (gc : Nat) (pa : Option Addr) (pc : Nat) (n m : Int) (w : World) (hg : GsAt w ga b.gs) (hp : PsAt w pa b.ps) (hgl : b.gs.length ≤ maxLen) (hpl : b.ps.length ≤ maxLen) :
    Calls Try.prog 3 #[bv b ga gc pa pc, .int .i64 n, .int .i64 m] w (Gives (.bool true) w) := by
  have HL := Lib.hid (fun W => l_long b ga gc pa pc W hgl hpl)
  have HA := Lib.hid l_alive
  by_cases hl : 40 < (max b.gs.length b.ps.length : Nat)
  · have e : longB b = true := by unfold longB; exact decide_eq_true hl
    rw [e] at HL
    clear e hl hgl hpl
    unfold bv at *
    go_enter Try.func3, Try.ntmps3
    go_wp2_with (first
      | (go_at_call 12; refine (HL.out _).mono ?_; rintro e w1 ⟨rfl, hb1⟩)
      | (go_at_call 13; refine (HA.out _).mono ?_; rintro e w2 ⟨rfl, hb2⟩))
    go_ret
    have hB1 : Below w.heap.size w w1 := ((Below.refl _ _).alloc (Nat.le_refl _) _).trans (hb1.mono (by simp))
    exact ⟨rfl, hB1.trans (hb2.mono hB1.size)⟩
  · have e : longB b = false := by unfold longB; exact decide_eq_false hl
    rw [e] at HL
    have hgl2 : b.gs.length ≤ 40 := by omega
    have hpl2 : b.ps.length ≤ 40 := by omega
    have I1 := Lib.hid (fun W (hb : Below w.heap.size w W) => bb_Whites b ga gc pa pc W (hg.below hb) (hp.below hb) hgl2 hpl2)
    have R1 := Lib.hid (fun W (hb : Below w.heap.size w W) => rr_Whites b ga gc pa pc W (hg.below hb) (hp.below hb) hgl2 hpl2)
    have I2 := Lib.hid (fun W (hb : Below w.heap.size w W) => bb_White b ga gc pa pc W (hg.below hb) (hp.below hb) hgl2 hpl2 n)
    have R2 := Lib.hid (fun W (hb : Below w.heap.size w W) => rr_White b ga gc pa pc W (hg.below hb) (hp.below hb) hgl2 hpl2 n)
    have I3 := Lib.hid (fun W (hb : Below w.heap.size w W) => bb_Known b ga gc pa pc W (hg.below hb) (hp.below hb) hgl2 hpl2)
    have R3 := Lib.hid (fun W (hb : Below w.heap.size w W) => rr_Known b ga gc pa pc W (hg.below hb) (hp.below hb) hgl2 hpl2)
    have I4 := Lib.hid (fun W (hb : Below w.heap.size w W) => bb_Passed b ga gc pa pc W (hg.below hb) (hp.below hb) hgl2 hpl2)
    have R4 := Lib.hid (fun W (hb : Below w.heap.size w W) => rr_Passed b ga gc pa pc W (hg.below hb) (hp.below hb) hgl2 hpl2)
    have I5 := Lib.hid (fun W (hb : Below w.heap.size w W) => bb_Same b ga gc pa pc W (hg.below hb) (hp.below hb) hgl2 hpl2 n m)
    have R5 := Lib.hid (fun W (hb : Below w.heap.size w W) => rr_Same b ga gc pa pc W (hg.below hb) (hp.below hb) hgl2 hpl2 n m)
    clear e hl hgl hpl hg hp hgl2 hpl2
    generalize whitesR b = v1 at *
    generalize whiteR b n = v2 at *
    generalize knownR b = v3 at *
    generalize passedR b = v4 at *
    generalize sameR b n m = v5 at *
    obtain ⟨a1, a2, a3⟩ := v1
    obtain ⟨a4, a5⟩ := v2
    obtain ⟨a6, a7, a8⟩ := v3
    obtain ⟨a9, a10⟩ := v4
    obtain ⟨a11, a12⟩ := v5
    simp only at I1 R1 I2 R2 I3 R3 I4 R4 I5 R5
    unfold bv at *
    have hB := Below.refl w.heap.size w
    go_enter Try.func3, Try.ntmps3
    go_wp2_with (first
      | (go_at_call 12; refine (HL.out _).mono ?_; rintro e w1 ⟨rfl, hb1⟩; refine at_stop ?_))
    unfold Stop
    have bb := (Blk.new w #[.int .i64 b.V, .int .i64 b.nd, .int .i64 b.lo, .int .i64 b.hi, .slice ga b.gs.length gc, .slice pa b.ps.length pc] 27).below hb1 (by simp)
    replace hB := ((hB.alloc (Nat.le_refl _) _).trans (hb1.mono (by simp)))
    clear hb1
    go_wp2_with (first
      | (refine wpList_load_blk 27 (.tmp 3) agg_bean rfl rfl rfl bb rfl ?_)
      | (go_at_call 14; refine (I1.out _ hB).mono ?_; rintro e w2 ⟨rfl, hb2⟩; refine at_stop ?_))
    unfold Stop
    replace bb := bb.below hb2 bb.lt
    replace hB := hB.trans (hb2.mono hB.size)
    clear hb2
    go_wp2_with (first
      | (refine wpList_store_blk 23 (.tmp 7) (.tmp 35) agg_span rfl rfl rfl rfl (Blk.new _ _ _) rfl rfl (by simp [Value.oneCell']) ?_; intro w3 h3; refine at_stop ?_))
    unfold Stop
    have b7 := h3.blk
    replace bb := h3.other (bb.alloc _) (by have := bb.lt; omega)
    replace hB := h3.below (hB.alloc hB.size _) hB.size
    generalize hp7 : w2.heap.size = p7 at *
    clear h3
    go_wp2_with (first
      | (refine wpList_load_blk 27 (.tmp 3) agg_bean rfl rfl rfl bb rfl ?_)
      | (go_at_call 15; refine (R1.out _ hB).mono ?_; rintro e w2 ⟨rfl, hb2⟩; refine at_stop ?_))
    unfold Stop
    replace bb := bb.below hb2 bb.lt
    replace b7 := b7.below hb2 b7.lt
    replace hB := hB.trans (hb2.mono hB.size)
    clear hb2
    go_wp2_with (first
      | (refine wpList_store_blk 23 (.tmp 9) (.tmp 40) agg_span rfl rfl rfl rfl (Blk.new _ _ _) rfl rfl (by simp [Value.oneCell']) ?_; intro w3 h3; refine at_stop ?_))
    unfold Stop
    have b9 := h3.blk
    replace bb := h3.other (bb.alloc _) (by have := bb.lt; omega)
    replace b7 := h3.other (b7.alloc _) (by have := b7.lt; omega)
    replace hB := h3.below (hB.alloc hB.size _) hB.size
    generalize hp9 : w2.heap.size = p9 at *
    clear h3
    go_wp2_with (first
      | (refine wpList_load_blk 27 (.tmp 3) agg_bean rfl rfl rfl bb rfl ?_)
      | (go_at_call 16; refine (I2.out _ hB).mono ?_; rintro e w2 ⟨rfl, hb2⟩; replace bb := bb.below hb2 bb.lt; replace b7 := b7.below hb2 b7.lt; replace b9 := b9.below hb2 b9.lt; replace hB := hB.trans (hb2.mono hB.size); clear hb2)
      | (go_at_call 17; refine (R2.out _ hB).mono ?_; rintro e w2 ⟨rfl, hb2⟩; replace bb := bb.below hb2 bb.lt; replace b7 := b7.below hb2 b7.lt; replace b9 := b9.below hb2 b9.lt; replace hB := hB.trans (hb2.mono hB.size); clear hb2)
      | (go_at_call 18; refine (I3.out _ hB).mono ?_; rintro e w2 ⟨rfl, hb2⟩; replace bb := bb.below hb2 bb.lt; replace b7 := b7.below hb2 b7.lt; replace b9 := b9.below hb2 b9.lt; replace hB := hB.trans (hb2.mono hB.size); clear hb2)
      | (go_at_call 19; refine (R3.out _ hB).mono ?_; rintro e w2 ⟨rfl, hb2⟩; replace bb := bb.below hb2 bb.lt; replace b7 := b7.below hb2 b7.lt; replace b9 := b9.below hb2 b9.lt; replace hB := hB.trans (hb2.mono hB.size); clear hb2)
      | (go_at_call 20; refine (I4.out _ hB).mono ?_; rintro e w2 ⟨rfl, hb2⟩; replace bb := bb.below hb2 bb.lt; replace b7 := b7.below hb2 b7.lt; replace b9 := b9.below hb2 b9.lt; replace hB := hB.trans (hb2.mono hB.size); clear hb2)
      | (go_at_call 21; refine (R4.out _ hB).mono ?_; rintro e w2 ⟨rfl, hb2⟩; replace bb := bb.below hb2 bb.lt; replace b7 := b7.below hb2 b7.lt; replace b9 := b9.below hb2 b9.lt; replace hB := hB.trans (hb2.mono hB.size); clear hb2)
      | (go_at_call 22; refine (I5.out _ hB).mono ?_; rintro e w2 ⟨rfl, hb2⟩; replace bb := bb.below hb2 bb.lt; replace b7 := b7.below hb2 b7.lt; replace b9 := b9.below hb2 b9.lt; replace hB := hB.trans (hb2.mono hB.size); clear hb2)
      | (go_at_call 23; refine (R5.out _ hB).mono ?_; rintro e w2 ⟨rfl, hb2⟩; replace bb := bb.below hb2 bb.lt; replace b7 := b7.below hb2 b7.lt; replace b9 := b9.below hb2 b9.lt; replace hB := hB.trans (hb2.mono hB.size); clear hb2)
      | (refine wpList_load_blk 23 (.tmp 7) agg_span rfl rfl rfl b7 rfl ?_)
      | (refine wpList_load_blk 23 (.tmp 9) agg_span rfl rfl rfl b9 rfl ?_)
      | (go_at_call 13; refine (HA.out _).mono ?_; rintro e w2 ⟨rfl, hb2⟩))
    go_ret
    exact ⟨rfl, hB.trans (hb2.mono hB.size)⟩
end Go.Proofs.Ytjbjmoghloabpaa
