/- Parts of a proof: ClashM, ClashB. -/
import Derived.Test.YtjbjmoghloabpaaM50
import Derived.Deep.CutRange
import Derived.Test.YtjbjmoghloabpaaM44
/- The law BeanClash walked: valid votes. -/
set_option linter.unusedVariables false
set_option linter.unusedSimpArgs false
namespace Go.Proofs.Ytjbjmoghloabpaa
open Go.RowKit Go.Proofs
attribute [local irreducible] Ord.walk
theorem pow_i64' (k : Nat) (h : k < 62) : IntKind.i64.wrap ((2 : Int) ^ k) = (2 : Int) ^ k := by
  have e1 : ((2 : Int) ^ k) = ((2 ^ k : Nat) : Int) := by simp
  have h8 : 2 ^ k < 2 ^ 62 := Nat.pow_lt_pow_right (by omega) h
  have e : (2 : Nat) ^ 62 = 4611686018427387904 := rfl
  rw [e1]
  clear e1
  generalize 2 ^ k = x at *
  exact Lib.wrap_i64_small _ (by omega)
set_option maxHeartbeats 40000000 in
set_option maxRecDepth 100000 in
theorem w_Clash_main (b : Bn) (ga : Option Addr) (gc : Nat) (pa : Option Addr) (pc : Nat) (n1 : Nat) (hn1 : n1 < 256) (w : World) (hg : GsAt w ga b.gs) (hp : PsAt w pa b.ps) (hv : valid b = true) :
    Calls Try.prog 10 #[bv b ga gc pa pc, .int .u8 n1] w (Gives (.bool true) w) := by
  have hln := valid_len hv
  have hV := valid_V hv
  have HL : Hid (∀ W, Calls Try.prog 12 #[bv b ga gc pa pc] W (Gives (.bool false) W)) := fun W => by
    have := l_long b ga gc pa pc W (by unfold maxLen; omega) (by unfold maxLen; omega)
    rwa [show longB b = false by unfold longB; exact decide_eq_false (by omega)] at this
  have HBn : Hid (∀ W, Below w.heap.size w W → Calls Try.prog 36 #[bv b ga gc pa pc] W (Gives (.bool true) W)) := fun W hb => by
    have := r_bean (hg.below hb) (hp.below hb) (ga := ga) (gc := gc) (pa := pa) (pc := pc) (by omega) (by omega)
    rwa [hv] at this
  obtain ⟨x, e, HF0⟩ := cf hv
  have HF := Lib.hid HF0
  have hcase := HF0.case
  clear HF0
  have hkn8 := kn_8 hv
  obtain ⟨K, hK⟩ : ∃ K, b.kn = K := ⟨_, rfl⟩
  have hK8 : K ≤ 8 := by omega
  have hKi : (b.gs.length : Int) + (b.ps.length : Int) = (K : Int) := by have h : b.gs.length + b.ps.length = K := hK; omega
  rw [hK] at hcase
  obtain ⟨Z, hZ⟩ : ∃ Z, 2 ^ K = Z := ⟨_, rfl⟩
  have hZ8 : Z ≤ 256 := by have := Nat.pow_le_pow_right (show 0 < 2 by omega) hK8; have e : (2 : Nat) ^ 8 = 256 := rfl; omega
  have hZ0 : 0 < Z := by rw [← hZ]; exact Nat.two_pow_pos K
  have hsl : IntKind.i64.wrap ((2 : Int) ^ K) = (Z : Int) := by rw [pow_i64' K (by omega), ← hZ]; simp
  rw [hZ] at hcase
  have I1 : Hid (∀ W, Below w.heap.size w W → Calls Try.prog 30 #[bv b ga gc pa pc] W (Gives2 (.int .i64 x) (.int .i64 e) W)) := fun W hb => by
    have := bb_Clash b ga gc pa pc W (hg.below hb) (hp.below hb) (by omega) (by omega); rwa [HF.out.clash] at this
  have I2 : Hid (∀ W p (s : Nat) (xi : Int), xi = (s : Int) → s < 256 → Below w.heap.size w W → Blk W p #[.int .i64 b.V, .int .i64 b.nd, .int .i64 b.lo, .int .i64 b.hi, .slice ga b.gs.length gc, .slice pa b.ps.length pc] 27 → Calls Try.prog 42 #[.int .i64 xi, .pointer (some ⟨p, 0, none⟩)] W (Gives (.bool (truthsL b s).isEmpty) W)) := fun W p s xi hxi hs hb h1 => by
    subst hxi; exact l_clash1 b ga gc pa pc s p W h1 (hg.below hb) (hp.below hb) hv hs
  have HA := Lib.hid l_alive
  obtain ⟨f, hf⟩ : ∃ f : Nat → Bool, (fun s => (truthsL b s).isEmpty) = f := ⟨_, rfl⟩
  have hfs : ∀ s, (truthsL b s).isEmpty = f s := fun s => by rw [← hf]
  simp only [hfs] at I2 hcase
  clear hK hZ hfs hf hg hp HF hkn8
  unfold bv at *
  go_enter Try.func10, Try.ntmps10
  go_wp2_with (first
    | (go_at_call 12; refine (HL.out _).mono ?_; rintro e w1 ⟨rfl, hb1⟩; refine at_stop ?_))
  unfold Stop
  have bb := (Blk.new w #[.int .i64 b.V, .int .i64 b.nd, .int .i64 b.lo, .int .i64 b.hi, .slice ga b.gs.length gc, .slice pa b.ps.length pc] 27).below hb1 (by first | omega | (simp; done) | (simp; omega))
  have hB := ((Below.refl w.heap.size w).alloc (Nat.le_refl _) _).trans (hb1.mono (by first | omega | (simp; done) | (simp; omega)))
  clear hb1
  have rb := bb.cell
  go_upto_region 3 with (first
    | (go_at_call 36; refine (HBn.out _ hB).mono ?_; rintro e w2 ⟨rfl, hb2⟩; replace bb := bb.below hb2 bb.lt; replace hB := hB.trans (hb2.mono hB.size); clear hb2; replace rb := bb.cell))
  clear rb HL HBn hv
  have hg4 : (b.gs.length : Int) ≤ 4 := by omega
  have hp4 : (b.ps.length : Int) ≤ 4 := by omega
  clear hln
  go_upto_region 4 with (first
    | (refine wpList_load_blk 27 (.tmp 2) agg_bean rfl rfl rfl bb rfl ?_)
    | (go_at_call 30; refine (I1.out _ hB).mono ?_; rintro e w5 ⟨rfl, hb5⟩; replace bb := bb.below hb5 bb.lt; replace hB := hB.trans (hb5.mono hB.size); clear hb5))
  clear I1
  have rb := bb.cell
  go_upto_region 6 with fail
  rcases hcase with ⟨rfl, rfl, h1⟩ | ⟨m, rfl, rfl, hmZ, h1, h2, h3, h4⟩
  · have hI2 := I2.out _ _ (Z - 1) ((Z : Int) - 1) (by omega) (by omega) hB bb
    rw [h1] at hI2
    clear I2 hK8 rb
    go_wp2_with (first
      | (go_at_call 42; refine hI2.mono ?_; rintro e w6 ⟨rfl, hb6⟩)
      | (go_at_call 13; refine (HA.out _).mono ?_; rintro e w7 ⟨rfl, hb7⟩))
    go_ret
    exact ⟨rfl, (hB.trans (hb6.mono hB.size)).trans (hb7.mono (by have := hB.size; have := hb6.size; omega))⟩
  · have hI2 := I2.out _ _ (Z - 1) ((Z : Int) - 1) (by omega) (by omega) hB bb
    rw [h1] at hI2
    go_upto_region 10 with (first
      | (go_at_call 42; refine hI2.mono ?_; rintro e w6 ⟨rfl, hb6⟩; replace bb := bb.below hb6 bb.lt; replace hB := hB.trans (hb6.mono hB.size); clear hb6))
    have hI3 := I2.out _ _ m (m : Int) rfl (by omega) hB bb
    rw [h2] at hI3
    have hmi : (m : Int) ≤ (Z : Int) - 1 := by omega
    clear hI2 rb
    go_upto_region 12 with (first
      | (go_at_call 42; refine hI3.mono ?_; rintro e w7 ⟨rfl, hb7⟩; replace bb := bb.below hb7 bb.lt; replace hB := hB.trans (hb7.mono hB.size); clear hb7))
    have rb := bb.cell
    clear hI3 hmi
    go_wp2_with fail
    clear rb hsl hg4 hp4 hKi
    generalize w7 = wm at *
    have hsm := hB.size
    go_loopw [75] (fun i wr => ∃ k : Nat, k ≤ K ∧ i = .int .i64 k ∧ Below wm.heap.size wm wr) (fun i _ => K - (intOf i).toNat)
    case atStart => exact ⟨0, by omega, rfl, Below.refl _ _⟩
    case round =>
      obtain ⟨k, hk, rfl, hBr⟩ := hrel
      have bbr := bb.below hBr bb.lt
      have hBw := hB.trans (hBr.mono hB.size)
      have hsr := hBr.size
      by_cases hlt : k < K
      · have hlti : (k : Int) < (K : Int) := by omega
        have hq := bit_i64 m k (by omega)
        rw [bitI_hasB] at hq
        have hsk := pow_i64' k (by omega)
        have hk64 : k < 64 := by omega
        have h3k := h3 k hlt
        have hAN : bits .andNot .i64 (m : Int) ((2 : Int) ^ k) = ((m ^^^ (m &&& 2 ^ k) : Nat) : Int) := by
          have := andNot_i64 m (2 ^ k) (by omega) (by have := Nat.pow_lt_pow_right (a := 2) (by omega) (show k < 62 by omega); have e : (2 : Nat) ^ 62 = 4611686018427387904 := rfl; omega)
          rw [← this]; simp
        have hxl := xor_less k (by omega) m (by omega)
        cases hb : hasB m k
        · rw [hb] at hq
          simp only [Bool.false_eq_true, if_false] at hq
          clear h3 h4 I2 h3k hAN hsk hxl hb
          go_wp2_with fail
          exact ⟨⟨k + 1, by omega, by go_num, hBr⟩, by simp [intOf]; omega⟩
        · rw [hb] at hq
          simp only [if_true] at hq
          have hIk := I2.out wr _ (m ^^^ (m &&& 2 ^ k)) _ rfl (by omega) hBw bbr
          rw [h3k hb] at hIk
          clear h3 h4 I2 h3k hxl hb
          generalize (m ^^^ (m &&& 2 ^ k)) = y at *
          go_wp2_with (first
            | (go_at_call 42; refine hIk.mono ?_; rintro e w8 ⟨rfl, hb8⟩))
          exact ⟨⟨k + 1, by omega, by go_num, hBr.trans (hb8.mono hsr)⟩, by simp [intOf]; omega⟩
      · have hlti : ¬ (k : Int) < (K : Int) := by omega
        have hand : bits .and .i64 (n1 : Int) ((Z : Int) - 1) = ((n1 &&& (Z - 1) : Nat) : Int) := by
          have := and_i64 n1 (Z - 1) (by omega) (by omega)
          rw [← this, show ((Z - 1 : Nat) : Int) = (Z : Int) - 1 by omega]
        have hol : n1 &&& (Z - 1) ≤ Z - 1 := Nat.and_le_right
        generalize n1 &&& (Z - 1) = o at *
        have hIo := I2.out wr _ o _ rfl (by omega) hBw bbr
        have HSo := Lib.hid (l_size o (by omega))
        have HSm := Lib.hid (l_size m (by omega))
        have ho := h4 o (by omega)
        have hso := sz_le (w := o) (by omega)
        have hsm := sz_le (w := m) (by omega)
        generalize sz o = so at *
        generalize sz m = sm at *
        clear h3 h4 I2 hBr
        cases hfo : f o
        · rw [hfo] at hIo
          go_wp2_with (first
            | (go_at_call 42; refine hIo.mono ?_; rintro e w8 ⟨rfl, hb8⟩; replace hBw := hBw.trans (hb8.mono hBw.size); clear hb8)
            | (go_at_call 13; refine (HA.out _).mono ?_; rintro e w9 ⟨rfl, hb9⟩))
          go_ret
          exact ⟨rfl, hBw.trans (hb9.mono hBw.size)⟩
        · rw [hfo] at hIo
          rcases ho hfo with h5 | ⟨h5, h6⟩
          · have h5i : (sm : Int) < (so : Int) := by omega
            clear ho h5
            go_wp2_with (first
              | (go_at_call 42; refine hIo.mono ?_; rintro e w8 ⟨rfl, hb8⟩; replace hBw := hBw.trans (hb8.mono hBw.size); clear hb8)
              | (go_at_call 38; refine ((by first | with_reducible exact HSo.out _ | with_reducible exact HSm.out _) : Calls _ _ _ _ _).mono ?_; rintro e w' ⟨rfl, rfl⟩)
              | (go_at_call 13; refine (HA.out _).mono ?_; rintro e w9 ⟨rfl, hb9⟩))
            go_ret
            exact ⟨rfl, hBw.trans (hb9.mono hBw.size)⟩
          · have h6i : (m : Int) ≤ (o : Int) := by omega
            subst h5
            clear ho h6
            go_wp2_with (first
              | (go_at_call 42; refine hIo.mono ?_; rintro e w8 ⟨rfl, hb8⟩; replace hBw := hBw.trans (hb8.mono hBw.size); clear hb8)
              | (go_at_call 38; refine ((by first | with_reducible exact HSo.out _ | with_reducible exact HSm.out _) : Calls _ _ _ _ _).mono ?_; rintro e w' ⟨rfl, rfl⟩)
              | (go_at_call 13; refine (HA.out _).mono ?_; rintro e w9 ⟨rfl, hb9⟩))
            go_ret
            exact ⟨rfl, hBw.trans (hb9.mono hBw.size)⟩
end Go.Proofs.Ytjbjmoghloabpaa
/- The law BeanClash walked: all votes. -/
set_option linter.unusedVariables false
set_option linter.unusedSimpArgs false
namespace Go.Proofs.Ytjbjmoghloabpaa
open Go.RowKit Go.Proofs
attribute [local irreducible] Ord.walk
theorem w_BeanClash (b : Bn) (ga : Option Addr) (gc : Nat) (pa : Option Addr) (pc : Nat) (n1 : Int) (w : World) (hg : GsAt w ga b.gs) (hp : PsAt w pa b.ps) (hgl : b.gs.length ≤ maxLen) (hpl : b.ps.length ≤ maxLen) (wn1 : (Lit.int .u8 n1).wf = true) :
    Calls Try.prog 10 #[bv b ga gc pa pc, .int .u8 n1] w (Gives (.bool true) w) := by
  by_cases hl : 40 < (max b.gs.length b.ps.length : Nat)
  · exact w_Clash_long b ga gc pa pc n1 w hgl hpl hl
  · cases hv : valid b
    · exact w_Clash_no b ga gc pa pc n1 w hg hp (by omega) (by omega) hv
    · have hb1 := bounds_u8 wn1
      obtain ⟨k, rfl⟩ : ∃ k : Nat, n1 = (k : Int) := ⟨n1.toNat, by omega⟩
      exact w_Clash_main b ga gc pa pc k (by omega) w hg hp hv
end Go.Proofs.Ytjbjmoghloabpaa
