/- Parts of a proof: MqD, MqE. -/
import Derived.Test.YteeinehpneppnaaW29
/- The laws' long and heavy. -/
set_option linter.unusedVariables false
set_option linter.unusedSimpArgs false
namespace Go.Proofs.Yteeinehpneppnaa
open Go.RowKit Go.Proofs
attribute [local irreducible] Ord.walk
def longB (m : Mb) : Bool := decide (40 < max (max (max m.places.length m.legs.length) m.herds.length) m.seen.length)
theorem long_len {m : Mb} (h : longB m = false) : Mlen m := by
  unfold longB at h
  rw [decide_eq_false_iff_not] at h
  constructor <;> omega
theorem max2_run (a b : Int) (W : World) : (Builtin.max2 (.int .i64 a) (.int .i64 b)).run Try.prog W = .ok (.int .i64 (max a b)) W := by
  by_cases h : b > a
  · have : max a b = b := by omega
    simp [Builtin.max2, go_sem, h, this]
  · have : max a b = a := by omega
    simp [Builtin.max2, go_sem, h, this]
set_option maxHeartbeats 4000000 in
set_option maxRecDepth 100000 in
theorem l_long (m : Mb) (A : Ma) (w : World) (h1 : m.places.length ≤ maxLen) (h2 : m.legs.length ≤ maxLen) (h3 : m.herds.length ≤ maxLen) (h4 : m.seen.length ≤ maxLen) : Calls Try.prog 27 #[mv m A] w (Gives (.bool (longB m)) w) := by
  unfold longB
  rcases A with ⟨pa, pc, la, lc, ha, hc, sa, sc⟩
  rcases m with ⟨ps, ls, hs, ss⟩
  unfold mv mcells at *
  simp only at *
  generalize ps.length = n1 at *
  generalize ls.length = n2 at *
  generalize hs.length = n3 at *
  generalize ss.length = n4 at *
  go_enter Try.func27, Try.ntmps27
  go_wp2
  have hmx : ∀ W, (Builtin.max_ #[3, 3, 3, 3] 3 #[.int .i64 (n1 : Int), .int .i64 (n2 : Int), .int .i64 (n3 : Int), .int .i64 (n4 : Int)]).run Try.prog W = .ok (.int .i64 (max (max (max (n1 : Int) n2) n3) n4)) W := fun W => by
    simp [Builtin.max_, go_sem, max2_run]
  rw [hmx]
  go_wp2
  all_goals (try go_ret)
  all_goals (refine ⟨ret_bool ?_, (Below.refl _ _).alloc (Nat.le_refl _) _⟩; rw [Bool.eq_iff_iff]; simp only [decide_eq_true_eq]; omega)
def Heavies (m : Mb) (w : World) (e : Ending) (w' : World) : Prop := ∃ b, e = .returned (.bool b) ∧ (b = false → longB m = false) ∧ Below w.heap.size w w'
set_option maxHeartbeats 40000000 in
set_option maxRecDepth 100000 in
theorem l_heavy (m : Mb) (A : Ma) (n : Int) (w : World) (h1 : m.places.length ≤ maxLen) (h2 : m.legs.length ≤ maxLen) (h3 : m.herds.length ≤ maxLen) (h4 : m.seen.length ≤ maxLen) (hm : MbAt w m A) : Calls Try.prog 11 #[mv m A, .int .i64 n] w (Heavies m w) := by
  have HL := Lib.hid (fun W => l_long m A W h1 h2 h3 h4)
  have hB0 : Below w.heap.size w (w.alloc (.cells (mcells m A) 27)) := (Below.refl _ _).alloc (Nat.le_refl _) _
  have b0 := Blk.new w (mcells m A) 27
  cases hl : longB m
  · have hM := long_len hl
    rw [hl] at HL
    have HMo := Lib.hid (fun W (hb : Below w.heap.size w W) => r_mob m A hM W (hm.below hb))
    cases hv : validM m
    · rw [hv] at HMo
      have HH : Hid (∀ W, Below w.heap.size w W → Heavies m w (.returned (.bool false)) W) := fun W hb => ⟨false, rfl, fun _ => hl, hb⟩
      generalize Heavies m w = Q at *
      clear hM hl hv hm h1 h2 h3 h4
      rcases A with ⟨pa, pc, la, lc, ha, hc, sa, sc⟩
      unfold mv mcells at *
      simp only at *
      have r0 := b0.cell
      go_enter Try.func11, Try.ntmps11
      go_wp2_with (first
        | (go_at_call 27; refine (HL.out _).mono ?_; rintro e w1 ⟨rfl, hb1⟩; refine at_stop ?_))
      unfold Stop
      have hB1 := hB0.trans (hb1.mono (by simp))
      have b1 := b0.below hb1 (by simp)
      have r1 := b1.cell
      clear r0 hb1
      go_wp2_with (first
        | (go_at_call 28; refine (HMo.out _ hB1).mono ?_; rintro e w2 ⟨rfl, hb2⟩; refine at_stop ?_))
      unfold Stop
      have hB2 := hB1.trans (hb2.mono hB1.size)
      have b2 := b1.below hb2 b1.lt
      have r2 := b2.cell
      clear r1 hb2
      go_wp2_with (first
        | (go_at_call 27; refine (HL.out _).mono ?_; rintro e w3 ⟨rfl, hb3⟩))
      exact HH.out _ (hB2.trans (hb3.mono hB2.size))
    · rw [hv] at HMo
      have HH : Hid (∀ b W, Below w.heap.size w W → Heavies m w (.returned (.bool b)) W) := fun b W hb => ⟨b, rfl, fun _ => hl, hb⟩
      have hlen := validM_len hv
      have hlg := hm.legs
      have hhd := hm.herds
      generalize Heavies m w = Q at *
      clear hM hl hv hm h1 h2 h3 h4
      rcases A with ⟨pa, pc, la, lc, ha, hc, sa, sc⟩
      unfold mv mcells at *
      simp only at *
      have r0 := b0.cell
      have hl5 : (m.legs.length : Int) ≤ 5 := by omega
      have hh4 : (m.herds.length : Int) ≤ 4 := by omega
      go_enter Try.func11, Try.ntmps11
      go_wp2_with (first
        | (go_at_call 27; refine (HL.out _).mono ?_; rintro e w1 ⟨rfl, hb1⟩; refine at_stop ?_))
      unfold Stop
      have hB1 := hB0.trans (hb1.mono (by simp))
      have b1 := b0.below hb1 (by simp)
      have r1 := b1.cell
      clear r0 hb1
      go_wp2_with (first
        | (go_at_call 28; refine (HMo.out _ hB1).mono ?_; rintro e w2 ⟨rfl, hb2⟩; refine at_stop ?_))
      unfold Stop
      have hB2 := hB1.trans (hb2.mono hB1.size)
      have b2 := b1.below hb2 b1.lt
      have r2 := b2.cell
      clear r1 hb2 b1 hB1 b0 hB0
      go_wp2_with fail
      go_loopw [5, 22] (fun x iv wr => ∃ (k : Nat) (v : Int), k ≤ m.legs.length ∧ iv = .int .i64 (k : Int) ∧ x = .int .i64 v ∧ Below w2.heap.size w2 wr) (fun _ iv _ => m.legs.length - (intOf iv).toNat)
      case atStart => exact ⟨0, 1, Nat.zero_le _, rfl, rfl, Below.refl _ _⟩
      case round =>
        obtain ⟨k, v, hk, rfl, rfl, hBr⟩ := hrel
        have hBw := hB2.trans (hBr.mono hB2.size)
        have br := b2.below hBr b2.lt
        have rr := br.cell
        by_cases hlt : k < m.legs.length
        · have hlti : (k : Int) < (m.legs.length : Int) := by omega
          obtain ⟨gb, go, rfl, e1, e2⟩ := (hlg.below hBw).get2 hlt
          clear rr
          generalize m.legs[k] = x at *
          obtain ⟨x1, x2⟩ := x
          simp only at *
          go_wp2_with fail
          exact ⟨⟨k + 1, _, by omega, by go_num, rfl, hBr.alloc hBr.size _⟩, by simp [intOf]; omega⟩
        · have hlti : ¬ (k : Int) < (m.legs.length : Int) := by omega
          clear rr hlg
          obtain ⟨wo, hwo⟩ : ∃ wo, wo = wr := ⟨_, rfl⟩
          subst hwo
          have rr := br.cell
          go_wp2_with fail
          go_loopw [5, 38] (fun x iv wr => ∃ (k : Nat) (v : Int), k ≤ m.herds.length ∧ iv = .int .i64 (k : Int) ∧ x = .int .i64 v ∧ Below wo.heap.size wo wr) (fun _ iv _ => m.herds.length - (intOf iv).toNat)
          case atStart => exact ⟨0, _, Nat.zero_le _, rfl, rfl, Below.refl _ _⟩
          case round =>
            obtain ⟨k, v, hk, rfl, rfl, hBr⟩ := hrel
            have hBw2 := hBw.trans (hBr.mono hBw.size)
            have br2 := br.below hBr br.lt
            have rr2 := br2.cell
            clear rr
            by_cases hlt : k < m.herds.length
            · have hlti : (k : Int) < (m.herds.length : Int) := by omega
              obtain ⟨gb, go, rfl, e1, e2, e3, e4⟩ := (hhd.below hBw2).get4 hlt
              clear rr2
              generalize m.herds[k] = x at *
              obtain ⟨x1, x2, x3, x4⟩ := x
              simp only at *
              go_wp2_with fail
              exact ⟨⟨k + 1, _, by omega, by go_num, rfl, hBr.alloc hBr.size _⟩, by simp [intOf]; omega⟩
            · have hlti : ¬ (k : Int) < (m.herds.length : Int) := by omega
              go_wp2_with fail
              (try go_ret)
              exact HH.out _ _ hBw2
  · rw [hl] at HL
    have HH : Hid (∀ W, Below w.heap.size w W → Heavies m w (.returned (.bool true)) W) := fun W hb => ⟨true, rfl, fun h => absurd h (by simp), hb⟩
    generalize Heavies m w = Q at *
    clear hl hm h1 h2 h3 h4
    rcases A with ⟨pa, pc, la, lc, ha, hc, sa, sc⟩
    unfold mv mcells at *
    simp only at *
    have r0 := b0.cell
    go_enter Try.func11, Try.ntmps11
    go_wp2_with (first
      | (go_at_call 27; refine (HL.out _).mono ?_; rintro e w1 ⟨rfl, hb1⟩; refine at_stop ?_))
    unfold Stop
    have hB1 := hB0.trans (hb1.mono (by simp))
    have b1 := b0.below hb1 (by simp)
    have r1 := b1.cell
    clear r0 hb1
    go_wp2_with (first
      | (go_at_call 27; refine (HL.out _).mono ?_; rintro e w3 ⟨rfl, hb3⟩))
    exact HH.out _ (hB1.trans (hb3.mono hB1.size))
end Go.Proofs.Yteeinehpneppnaa
/- The law MobSets walked. -/
set_option linter.unusedVariables false
set_option linter.unusedSimpArgs false
namespace Go.Proofs.Yteeinehpneppnaa
open Go.RowKit Go.Proofs
attribute [local irreducible] Ord.walk
set_option maxHeartbeats 40000000 in
set_option maxRecDepth 100000 in
theorem w_MobSets (m : Mb) (A : Ma) (i k d : Int) (w : World) (hm : MbAt w m A) (l1 : m.places.length ≤ maxLen) (l2 : m.legs.length ≤ maxLen) (l3 : m.herds.length ≤ maxLen) (l4 : m.seen.length ≤ maxLen) :
    Calls Try.prog 3 #[mv m A, .int .i64 i, .int .i64 k, .int .i64 d] w (Gives (.bool true) w) := by
  have HL := Lib.hid (fun W (hb : Below w.heap.size w W) => l_heavy m A 500 W l1 l2 l3 l4 (hm.below hb))
  have HA := Lib.hid l_alive
  have I1 := Lib.hid (fun W (hb : Below w.heap.size w W) (hl : longB m = false) => m_Ahead (A := A) i k W (long_len hl) (hm.below hb))
  have R1 := Lib.hid (fun W (hb : Below w.heap.size w W) (hl : longB m = false) => r_Ahead (A := A) (w := W) i k (long_len hl) (hm.below hb))
  have I2 := Lib.hid (fun W (hb : Below w.heap.size w W) (hl : longB m = false) => m_There (A := A) d W (long_len hl) (hm.below hb))
  have R2 := Lib.hid (fun W (hb : Below w.heap.size w W) (hl : longB m = false) => r_There (A := A) (w := W) d (long_len hl) (hm.below hb))
  have I3 := Lib.hid (fun W (hb : Below w.heap.size w W) (hl : longB m = false) => m_Clash (A := A) W (long_len hl) (hm.below hb))
  have R3 := Lib.hid (fun W (hb : Below w.heap.size w W) (hl : longB m = false) => r_Clash (A := A) (w := W) (long_len hl) (hm.below hb))
  rw [aheadP_eq] at I1
  rw [thereP_eq] at I2
  rw [clashP_eq] at I3
  generalize aheadR m i k = v1 at *
  generalize thereE m d = v2 at *
  generalize clashR m = v3 at *
  obtain ⟨a1, a2⟩ := v1
  obtain ⟨a3, a4, a5⟩ := v2
  obtain ⟨a6, a7⟩ := v3
  simp only at I1 R1 I2 R2 I3 R3
  have bb0 := Blk.new w (mcells m A) 27
  have hB0 : Below w.heap.size w (w.alloc (.cells (mcells m A) 27)) := (Below.refl _ _).alloc (Nat.le_refl _) _
  clear hm l1 l2 l3 l4
  have HLP : Hid (∀ W e w', Heavies m W e w' → ∃ b, e = .returned (.bool b) ∧ (b = false → longB m = false) ∧ Below W.heap.size W w') := fun W e w' h => h
  generalize Heavies m = Hv at *
  generalize longB m = lb at *
  rcases A with ⟨pa, pc, la, lc, ha, hc, sa, sc⟩
  unfold mv mcells at *
  simp only at *
  go_enter Try.func3, Try.ntmps3
  go_wp2_with (first
    | (refine wpList_load_blk 27 (.tmp 4) agg_mob rfl rfl rfl bb0 rfl ?_)
    | (go_at_call 11; refine (HL.out _ hB0).mono ?_; intro e w1 h5; obtain ⟨b, rfl, hlb, hb1⟩ := HLP.out _ _ _ h5; refine at_stop ?_))
  unfold Stop
  have bb := bb0.below hb1 (by simp)
  have hB := hB0.trans (hb1.mono (by simp))
  clear hb1 bb0 hB0 h5
  cases b
  · have hl : lb = false := hlb rfl
    clear hlb
    go_wp2_with (first
      | (refine wpList_load_blk 27 (.tmp 4) agg_mob rfl rfl rfl bb rfl ?_)
      | (go_at_call 13; refine (I1.out _ hB hl).mono ?_; rintro e w2 ⟨rfl, hb2⟩; replace bb := bb.below hb2 bb.lt; replace hB := hB.trans (hb2.mono hB.size); clear hb2)
      | (go_at_call 14; refine (R1.out _ hB hl).mono ?_; rintro e w2 ⟨rfl, hb2⟩; replace bb := bb.below hb2 bb.lt; replace hB := hB.trans (hb2.mono hB.size); clear hb2)
      | (go_at_call 15; refine (I2.out _ hB hl).mono ?_; rintro e w2 ⟨rfl, hb2⟩; replace bb := bb.below hb2 bb.lt; replace hB := hB.trans (hb2.mono hB.size); clear hb2)
      | (go_at_call 16; refine (R2.out _ hB hl).mono ?_; rintro e w2 ⟨rfl, hb2⟩; replace bb := bb.below hb2 bb.lt; replace hB := hB.trans (hb2.mono hB.size); clear hb2)
      | (go_at_call 17; refine (I3.out _ hB hl).mono ?_; rintro e w2 ⟨rfl, hb2⟩; replace bb := bb.below hb2 bb.lt; replace hB := hB.trans (hb2.mono hB.size); clear hb2)
      | (go_at_call 18; refine (R3.out _ hB hl).mono ?_; rintro e w2 ⟨rfl, hb2⟩; replace bb := bb.below hb2 bb.lt; replace hB := hB.trans (hb2.mono hB.size); clear hb2)
      | (go_at_call 12; refine (HA.out _).mono ?_; rintro e w2 ⟨rfl, hb2⟩))
    go_ret
    exact ⟨rfl, hB.trans (hb2.mono hB.size)⟩
  · go_wp2_with (first
      | (go_at_call 12; refine (HA.out _).mono ?_; rintro e w2 ⟨rfl, hb2⟩))
    (try go_ret)
    exact ⟨rfl, hB.trans (hb2.mono hB.size)⟩
end Go.Proofs.Yteeinehpneppnaa
