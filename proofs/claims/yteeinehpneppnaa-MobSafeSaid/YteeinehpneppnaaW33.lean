/- Parts of a proof: MrM, MrB. -/
import Derived.Test.YteeinehpneppnaaW32
import Derived.Deep.CutRange
/- The law MobClash walked. (Printed by mkMrM.py) -/
set_option linter.unusedVariables false
set_option linter.unusedSimpArgs false
namespace Go.Proofs.Yteeinehpneppnaa
open Go.RowKit Go.Proofs
attribute [local irreducible] Ord.walk
theorem longB_valid {m : Mb} (hv : validM m = true) : longB m = false := by
  have := validM_len hv
  unfold longB
  exact decide_eq_false (by omega)
set_option maxHeartbeats 40000000 in
set_option maxRecDepth 100000 in
theorem w_Clash_main (m : Mb) (A : Ma) (n1 : Nat) (hn1 : n1 < 256) (w : World) (hm : MbAt w m A) (hv : validM m = true) :
    Calls Try.prog 9 #[mv m A, .int .u8 n1] w (Gives (.bool true) w) := by
  have hln := validM_len hv
  have HL : Hid (∀ W, Calls Try.prog 27 #[mv m A] W (Gives (.bool false) W)) := fun W => by
    have := l_long m A W (by unfold maxLen; omega) (by unfold maxLen; omega) (by unfold maxLen; omega) (by unfold maxLen; omega)
    rwa [longB_valid hv] at this
  have HBn : Hid (∀ W, Below w.heap.size w W → Calls Try.prog 28 #[mv m A] W (Gives (.bool true) W)) := fun W hb => by
    have := r_mob m A (long_len (longB_valid hv)) W (hm.below hb)
    rwa [hv] at this
  obtain ⟨x, e, HF0⟩ := cf hv
  have HF := Lib.hid HF0
  have hcase := HF0.case
  clear HF0
  obtain ⟨K, hK⟩ : ∃ K, m.seen.length = K := ⟨_, rfl⟩
  have hK8 : K ≤ 8 := by omega
  have hKi : (m.seen.length : Int) = (K : Int) := by omega
  rw [hK] at hcase
  obtain ⟨Z, hZ⟩ : ∃ Z, 2 ^ K = Z := ⟨_, rfl⟩
  have hZ8 : Z ≤ 256 := by have := Nat.pow_le_pow_right (show 0 < 2 by omega) hK8; have e : (2 : Nat) ^ 8 = 256 := rfl; omega
  have hZ0 : 0 < Z := by rw [← hZ]; exact Nat.two_pow_pos K
  have hsl : IntKind.i64.wrap ((2 : Int) ^ K) = (Z : Int) := by rw [pow_i64' K (by omega), ← hZ]; simp
  rw [hZ] at hcase
  have I1 : Hid (∀ W, Below w.heap.size w W → Calls Try.prog 17 #[mv m A] W (Gives2 (.int .i64 x) (.int .i64 e) W)) := fun W hb => by
    have := m_Clash (A := A) W (long_len (longB_valid hv)) (hm.below hb); rwa [HF.out.clash] at this
  have I2 : Hid (∀ W p (s : Nat) (xi : Int), xi = (s : Int) → s < 256 → Below w.heap.size w W → Blk W p (mcells m A) 27 → Calls Try.prog 37 #[.int .i64 xi, .pointer (some ⟨p, 0, none⟩)] W (Gives (.bool (truthsM m s).isEmpty) W)) := fun W p s xi hxi hs hb h1 => by
    subst hxi; exact l_clash1 m A s p W h1 (hm.below hb) hv hs
  have HA := Lib.hid l_alive
  obtain ⟨f, hf⟩ : ∃ f : Nat → Bool, (fun s => (truthsM m s).isEmpty) = f := ⟨_, rfl⟩
  have hfs : ∀ s, (truthsM m s).isEmpty = f s := fun s => by rw [← hf]
  simp only [hfs] at I2 hcase
  clear hK hZ hfs hf hm HF
  rcases A with ⟨pa, pc, la, lc, ha, hc, sa, sc⟩
  rcases m with ⟨ps, ls, hs, ss⟩
  unfold mv mcells at *
  simp only at *
  go_enter Try.func9, Try.ntmps9
  go_wp2_with (first
    | (go_at_call 27; refine (HL.out _).mono ?_; rintro e w1 ⟨rfl, hb1⟩; refine at_stop ?_))
  unfold Stop
  have bb := (Blk.new w #[.slice pa ps.length pc, .slice la ls.length lc, .slice ha hs.length hc, .slice sa ss.length sc] 27).below hb1 (by first | omega | (simp; done) | (simp; omega))
  have hB := ((Below.refl w.heap.size w).alloc (Nat.le_refl _) _).trans (hb1.mono (by first | omega | (simp; done) | (simp; omega)))
  clear hb1
  have rb := bb.cell
  go_upto_region 3 with (first
    | (go_at_call 28; refine (HBn.out _ hB).mono ?_; rintro e w2 ⟨rfl, hb2⟩; replace bb := bb.below hb2 bb.lt; replace hB := hB.trans (hb2.mono hB.size); clear hb2; replace rb := bb.cell))
  clear rb HL HBn hv
  have hg4 : (ss.length : Int) ≤ 5 := by omega
  clear hln
  go_upto_region 4 with (first
    | (refine wpList_load_blk 27 (.tmp 2) agg_mob rfl rfl rfl bb rfl ?_)
    | (go_at_call 17; refine (I1.out _ hB).mono ?_; rintro e w5 ⟨rfl, hb5⟩; replace bb := bb.below hb5 bb.lt; replace hB := hB.trans (hb5.mono hB.size); clear hb5))
  clear I1
  have rb := bb.cell
  go_upto_region 6 with fail
  rcases hcase with ⟨rfl, rfl, h1⟩ | ⟨q, rfl, rfl, hq1, hmZ, h1, h2, h3, h4⟩
  · have hI2 := I2.out _ _ (Z - 1) ((Z : Int) - 1) (by omega) (by omega) hB bb
    rw [h1] at hI2
    clear I2 hK8 rb
    go_wp2_with (first
      | (go_at_call 37; refine hI2.mono ?_; rintro e w6 ⟨rfl, hb6⟩)
      | (go_at_call 12; refine (HA.out _).mono ?_; rintro e w7 ⟨rfl, hb7⟩))
    go_ret
    exact ⟨rfl, (hB.trans (hb6.mono hB.size)).trans (hb7.mono (by have := hB.size; have := hb6.size; omega))⟩
  · have hI2 := I2.out _ _ (Z - 1) ((Z : Int) - 1) (by omega) (by omega) hB bb
    rw [h1] at hI2
    go_upto_region 10 with (first
      | (go_at_call 37; refine hI2.mono ?_; rintro e w6 ⟨rfl, hb6⟩; replace bb := bb.below hb6 bb.lt; replace hB := hB.trans (hb6.mono hB.size); clear hb6))
    have hI3 := I2.out _ _ q (q : Int) rfl (by omega) hB bb
    rw [h2] at hI3
    have hmi : (q : Int) ≤ (Z : Int) - 1 := by omega
    clear hI2 rb
    go_upto_region 12 with (first
      | (go_at_call 37; refine hI3.mono ?_; rintro e w7 ⟨rfl, hb7⟩; replace bb := bb.below hb7 bb.lt; replace hB := hB.trans (hb7.mono hB.size); clear hb7))
    have rb := bb.cell
    clear hI3 hmi
    go_wp2_with fail
    clear rb hsl hg4
    generalize w7 = wm at *
    have hsm := hB.size
    go_loopw [68] (fun i wr => ∃ k : Nat, k ≤ K ∧ i = .int .i64 k ∧ Below wm.heap.size wm wr) (fun i _ => K - (intOf i).toNat)
    case atStart => exact ⟨0, by omega, rfl, Below.refl _ _⟩
    case round =>
      obtain ⟨k, hk, rfl, hBr⟩ := hrel
      have bbr := bb.below hBr bb.lt
      have hBw := hB.trans (hBr.mono hB.size)
      have hsr := hBr.size
      by_cases hlt : k < K
      · have hlti : (k : Int) < (K : Int) := by omega
        have hqb := bit_i64 q k (by omega)
        rw [bitI_hasB] at hqb
        have hsk := pow_i64' k (by omega)
        have hk64 : k < 64 := by omega
        have h3k := h3 k hlt
        have hAN : bits .andNot .i64 (q : Int) ((2 : Int) ^ k) = ((q ^^^ (q &&& 2 ^ k) : Nat) : Int) := by
          have := andNot_i64 q (2 ^ k) (by omega) (by have := Nat.pow_lt_pow_right (a := 2) (by omega) (show k < 62 by omega); have e : (2 : Nat) ^ 62 = 4611686018427387904 := rfl; omega)
          rw [← this]; simp
        have hxl := xor_less k (by omega) q (by omega)
        cases hb : hasB q k
        · rw [hb] at hqb
          simp only [Bool.false_eq_true, if_false] at hqb
          clear h3 h4 I2 h3k hAN hsk hxl hb
          go_wp2_with fail
          exact ⟨⟨k + 1, by omega, by go_num, hBr⟩, by simp [intOf]; omega⟩
        · rw [hb] at hqb
          simp only [if_true] at hqb
          have hIk := I2.out wr _ (q ^^^ (q &&& 2 ^ k)) _ rfl (by omega) hBw bbr
          rw [h3k hb] at hIk
          clear h3 h4 I2 h3k hxl hb
          generalize (q ^^^ (q &&& 2 ^ k)) = y at *
          go_wp2_with (first
            | (go_at_call 37; refine hIk.mono ?_; rintro e w8 ⟨rfl, hb8⟩))
          exact ⟨⟨k + 1, by omega, by go_num, hBr.trans (hb8.mono hsr)⟩, by simp [intOf]; omega⟩
      · have hlti : ¬ (k : Int) < (K : Int) := by omega
        have hand : bits .and .i64 (n1 : Int) ((Z : Int) - 1) = ((n1 &&& (Z - 1) : Nat) : Int) := by
          have := and_i64 n1 (Z - 1) (by omega) (by omega)
          rw [← this, show ((Z - 1 : Nat) : Int) = (Z : Int) - 1 by omega]
        have hol : n1 &&& (Z - 1) ≤ Z - 1 := Nat.and_le_right
        generalize n1 &&& (Z - 1) = o at *
        have hIo := I2.out wr _ o _ rfl (by omega) hBw bbr
        have HSo := Lib.hid (fun W => r_size0 o (by omega) W)
        have HSm := Lib.hid (fun W => r_size0 q (by omega) W)
        have ho := h4 o (by omega)
        have hso := sz_le (w := o) (by omega)
        have hsm := sz_le (w := q) (by omega)
        generalize sz o = so at *
        generalize sz q = sm at *
        clear h3 h4 I2 hBr
        cases hfo : f o
        · rw [hfo] at hIo
          go_wp2_with (first
            | (go_at_call 37; refine hIo.mono ?_; rintro e w8 ⟨rfl, hb8⟩; replace hBw := hBw.trans (hb8.mono hBw.size); clear hb8)
            | (go_at_call 12; refine (HA.out _).mono ?_; rintro e w9 ⟨rfl, hb9⟩))
          go_ret
          exact ⟨rfl, hBw.trans (hb9.mono hBw.size)⟩
        · rw [hfo] at hIo
          rcases ho hfo with h5 | ⟨h5, h6⟩
          · have h5i : (sm : Int) < (so : Int) := by omega
            clear ho h5
            go_wp2_with (first
              | (go_at_call 37; refine hIo.mono ?_; rintro e w8 ⟨rfl, hb8⟩; replace hBw := hBw.trans (hb8.mono hBw.size); clear hb8)
              | (go_at_call 38; refine ((by first | with_reducible exact HSo.out _ | with_reducible exact HSm.out _) : Calls _ _ _ _ _).mono ?_; rintro e w' ⟨rfl, rfl⟩)
              | (go_at_call 12; refine (HA.out _).mono ?_; rintro e w9 ⟨rfl, hb9⟩))
            go_ret
            exact ⟨rfl, hBw.trans (hb9.mono hBw.size)⟩
          · have h6i : (q : Int) ≤ (o : Int) := by omega
            subst h5
            clear ho h6
            go_wp2_with (first
              | (go_at_call 37; refine hIo.mono ?_; rintro e w8 ⟨rfl, hb8⟩; replace hBw := hBw.trans (hb8.mono hBw.size); clear hb8)
              | (go_at_call 38; refine ((by first | with_reducible exact HSo.out _ | with_reducible exact HSm.out _) : Calls _ _ _ _ _).mono ?_; rintro e w' ⟨rfl, rfl⟩)
              | (go_at_call 12; refine (HA.out _).mono ?_; rintro e w9 ⟨rfl, hb9⟩))
            go_ret
            exact ⟨rfl, hBw.trans (hb9.mono hBw.size)⟩
end Go.Proofs.Yteeinehpneppnaa
/- The law MobClash walked: all ways. -/
set_option linter.unusedVariables false
set_option linter.unusedSimpArgs false
namespace Go.Proofs.Yteeinehpneppnaa
open Go.RowKit Go.Proofs
attribute [local irreducible] Ord.walk
set_option maxHeartbeats 4000000 in
set_option maxRecDepth 100000 in
theorem w_Clash_long (m : Mb) (A : Ma) (n1 : Int) (w : World) (l1 : m.places.length ≤ maxLen) (l2 : m.legs.length ≤ maxLen) (l3 : m.herds.length ≤ maxLen) (l4 : m.seen.length ≤ maxLen) (hl : longB m = true) :
    Calls Try.prog 9 #[mv m A, .int .u8 n1] w (Gives (.bool true) w) := by
  have HL : Hid (∀ W, Calls Try.prog 27 #[mv m A] W (Gives (.bool true) W)) := fun W => by
    have := l_long m A W l1 l2 l3 l4
    rwa [hl] at this
  have HA := Lib.hid l_alive
  clear l1 l2 l3 l4 hl
  rcases A with ⟨pa, pc, la, lc, ha, hc, sa, sc⟩
  unfold mv mcells at *
  simp only at *
  go_enter Try.func9, Try.ntmps9
  go_wp2_with (first
    | (go_at_call 27; refine (HL.out _).mono ?_; rintro e w1 ⟨rfl, hb1⟩)
    | (go_at_call 12; refine (HA.out _).mono ?_; rintro e w2 ⟨rfl, hb2⟩))
  go_ret
  have hB1 : Below w.heap.size w w1 := ((Below.refl w.heap.size w).alloc (Nat.le_refl _) _).trans (hb1.mono (by first | omega | (simp; done) | (simp; omega)))
  exact ⟨rfl, hB1.trans (hb2.mono hB1.size)⟩
set_option maxHeartbeats 4000000 in
set_option maxRecDepth 100000 in
theorem w_Clash_no (m : Mb) (A : Ma) (n1 : Int) (w : World) (hm : MbAt w m A) (hl : longB m = false) (hv : validM m = false) :
    Calls Try.prog 9 #[mv m A, .int .u8 n1] w (Gives (.bool true) w) := by
  have hM := long_len hl
  have HL : Hid (∀ W, Calls Try.prog 27 #[mv m A] W (Gives (.bool false) W)) := fun W => by
    have := l_long m A W (by have := hM.places; unfold maxLen; omega) (by have := hM.legs; unfold maxLen; omega) (by have := hM.herds; unfold maxLen; omega) (by have := hM.seen; unfold maxLen; omega)
    rwa [hl] at this
  have HBn : Hid (∀ W, Below w.heap.size w W → Calls Try.prog 28 #[mv m A] W (Gives (.bool false) W)) := fun W hb => by
    have := r_mob m A hM W (hm.below hb)
    rwa [hv] at this
  have HA := Lib.hid l_alive
  clear hl hv hm hM
  rcases A with ⟨pa, pc, la, lc, ha, hc, sa, sc⟩
  unfold mv mcells at *
  simp only at *
  go_enter Try.func9, Try.ntmps9
  go_wp2_with (first
    | (go_at_call 27; refine (HL.out _).mono ?_; rintro e w1 ⟨rfl, hb1⟩; refine at_stop ?_))
  unfold Stop
  have bb := (Blk.new w #[.slice pa m.places.length pc, .slice la m.legs.length lc, .slice ha m.herds.length hc, .slice sa m.seen.length sc] 27).below hb1 (by first | omega | (simp; done) | (simp; omega))
  have hB := ((Below.refl w.heap.size w).alloc (Nat.le_refl _) _).trans (hb1.mono (by first | omega | (simp; done) | (simp; omega)))
  clear hb1
  have rb := bb.cell
  go_wp2_with (first
    | (go_at_call 28; refine (HBn.out _ hB).mono ?_; rintro e w2 ⟨rfl, hb2⟩)
    | (go_at_call 12; refine (HA.out _).mono ?_; rintro e w3 ⟨rfl, hb3⟩))
  go_ret
  replace hB := hB.trans (hb2.mono hB.size)
  exact ⟨rfl, hB.trans (hb3.mono hB.size)⟩
theorem w_MobClash (m : Mb) (A : Ma) (n1 : Int) (w : World) (hm : MbAt w m A) (l1 : m.places.length ≤ maxLen) (l2 : m.legs.length ≤ maxLen) (l3 : m.herds.length ≤ maxLen) (l4 : m.seen.length ≤ maxLen) (wn1 : (Lit.int .u8 n1).wf = true) :
    Calls Try.prog 9 #[mv m A, .int .u8 n1] w (Gives (.bool true) w) := by
  cases hl : longB m
  · cases hv : validM m
    · exact w_Clash_no m A n1 w hm hl hv
    · have hb1 : 0 ≤ n1 ∧ n1 < 256 := by
        have := bounds_u8 wn1
        omega
      obtain ⟨k, rfl⟩ : ∃ k : Nat, n1 = (k : Int) := ⟨n1.toNat, by omega⟩
      exact w_Clash_main m A k (by omega) w hm hv
  · exact w_Clash_long m A n1 w l1 l2 l3 l4 hl
end Go.Proofs.Yteeinehpneppnaa
