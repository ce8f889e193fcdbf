/- Parts of a proof: QuietP, QuietM. -/
import Derived.Test.YtjbjmoghloabpaaM45
import Derived.Test.YtjbjmoghloabpaaM39
import Derived.Deep.CutRange
/- Plain laws of the law BeanQuiet. -/
set_option linter.unusedVariables false
set_option linter.unusedSimpArgs false
namespace Go.Proofs.Ytjbjmoghloabpaa
open Go.RowKit Go.Proofs
attribute [local irreducible] Ord.walk
/-- A vote with just this number of white beans. -/
def atV (b : Bn) (n : Nat) : Bn := { b with lo := (n : Int), hi := (n : Int) }
theorem atV_valid {b : Bn} (hv : valid b = true) {n : Nat} (hn : (n : Int) ≤ b.V) : valid (atV b n) = true := by
  simp only [valid, Bool.and_eq_true] at hv ⊢
  refine ⟨⟨?_, hv.1.2⟩, hv.2⟩
  have h := hv.1.1
  simp only [headOk, Bool.and_eq_true, decide_eq_true_eq] at h ⊢
  refine ⟨⟨⟨h.1.1.1, ?_⟩, h.1.2⟩, h.2⟩
  show spanB (n : Int) (n : Int) b.V = true
  simp [spanB]; omega
theorem TL_atV {b : Bn} (hv : valid b = true) {n : Nat} (hn : (n : Int) ≤ b.V) (h1 : b.lo ≤ n) (h2 : (n : Int) ≤ b.hi) : TL (atV b n) = withL (TL b) n := by
  rw [← LK_all (atV_valid hv hn), ← LK_all hv]
  show (List.range (2 ^ b.V.toNat)).filter _ = ((List.range (2 ^ b.V.toNat)).filter _).filter _
  rw [List.filter_filter]
  apply List.filter_congr
  intro x hx
  show (b.gs.all (hG x) && (b.ps.all (hP x) && inB (sz x : Nat) n n)) = (decide ((sz x : Int) = (n : Int)) && holdsB b x)
  unfold holdsB
  have e : inB (sz x : Nat) n n = (decide ((sz x : Int) = (n : Int)) && inB (sz x : Nat) b.lo b.hi) := by
    rw [Bool.eq_iff_iff]; simp [inB]; omega
  rw [e]
  generalize b.gs.all (hG x) = u
  generalize b.ps.all (hP x) = y
  generalize inB (sz x : Nat) b.lo b.hi = z
  generalize decide ((sz x : Int) = (n : Int)) = d
  cases u <;> cases y <;> cases z <;> cases d <;> rfl
theorem TL_whites {b : Bn} (hv : valid b = true) {x : Nat} (hx : x ∈ TL b) : b.lo ≤ (sz x : Int) ∧ (sz x : Int) ≤ b.hi := by
  rw [← LK_all hv] at hx
  have h := (List.mem_filter.1 hx).2
  unfold holdsB at h
  simp only [Bool.and_eq_true] at h
  simpa [inB] using h.2.2
theorem white_mono (l m : List Nat) (h : ∀ x ∈ m, x ∈ l) (V : Nat) : ∀ i, (whiteM l V).testBit i = true → (whiteM m V).testBit i = true := by
  intro i
  unfold whiteM
  rw [maskTo_test, maskTo_test]
  simp only [Bool.and_eq_true, beq_iff_eq]
  rintro ⟨h1, h2⟩
  refine ⟨h1, ?_⟩
  unfold cntH at h2 ⊢
  exact List.countP_eq_length.2 fun x hx => List.countP_eq_length.1 h2 x (h x hx)
theorem black_mono (l m : List Nat) (h : ∀ x ∈ m, x ∈ l) (V : Nat) : ∀ i, (blackM l V).testBit i = true → (blackM m V).testBit i = true := by
  intro i
  unfold blackM
  rw [maskTo_test, maskTo_test]
  simp only [Bool.and_eq_true, beq_iff_eq]
  rintro ⟨h1, h2⟩
  refine ⟨h1, ?_⟩
  unfold cntH at h2 ⊢
  exact List.countP_eq_zero.2 fun x hx => List.countP_eq_zero.1 h2 x (h x hx)
/-- What is returned of a vote. -/
structure Qf (b : Bn) (n : Nat) (q wh bl a c lo hi d i : Nat) (k g e : Int) : Prop where
  quiet : quietR b = ((q : Int), e)
  known : knownR b = ((wh : Int), (bl : Int), e)
  tell : tellR b n = ((a : Int), (c : Int), g)
  whites : whitesR b = ((lo : Int), (hi : Int), e)
  kx : knownR (atV b n) = ((d : Int), (i : Int), k)
  q8 : q < 4611686018427387904
  lo8 : lo ≤ 8
  case : (e = 10 ∧ g = 10 ∧ q = 0 ∧ a = 0 ∧ c = 0) ∨
    (e = 0 ∧ g = 0 ∧ k = 0 ∧ b.lo ≤ (n : Int) ∧ (n : Int) ≤ b.hi ∧ d = a ∧ i = c ∧ (q : Int) / 2 ^ (b.V.toNat + 1) = 0 ∧ bits .andNot .i64 (wh : Int) (a : Int) = 0 ∧ bits .andNot .i64 (bl : Int) (c : Int) = 0 ∧
      ((bitI q n = 1 ∧ a = wh ∧ c = bl) ∨ (bitI q n = 0 ∧ a = wh ∧ c ≠ bl) ∨ (bitI q n = 0 ∧ a ≠ wh)) ∧ (lo ≠ hi ∨ (lo = hi ∧ q = 2 ^ lo))) ∨
    (e = 0 ∧ g = 4 ∧ a = 0 ∧ c = 0 ∧ ((k = 10 ∧ b.lo ≤ (n : Int) ∧ (n : Int) ≤ b.hi) ∨ ((n : Int) < b.lo) ∨ (b.lo ≤ (n : Int) ∧ b.hi < (n : Int))) ∧ (q : Int) / 2 ^ (b.V.toNat + 1) = 0 ∧ lo ≠ n ∧ hi ≠ n ∧ bitI q n = 0)
theorem known_of {b : Bn} (hv : valid b = true) : ∃ d i : Nat, knownR b = ((d : Int), (i : Int), if TL b = [] then 10 else 0) ∧ (TL b ≠ [] → d = whiteM (TL b) b.V.toNat ∧ i = blackM (TL b) b.V.toNat) := by
  by_cases ht : TL b = []
  · have e1 : toldE b true = 10 := by unfold toldE; simp [hv, ht]
    exact ⟨0, 0, by unfold knownR; rw [e1, if_neg (by omega), if_pos ht]; rfl, fun h => absurd ht h⟩
  · have e1 : toldE b true = 0 := by unfold toldE; simp [hv, ht]
    exact ⟨_, _, by unfold knownR; rw [if_pos e1, if_neg ht], fun _ => ⟨rfl, rfl⟩⟩
theorem qf {b : Bn} (hv : valid b = true) {n : Nat} (hn : (n : Int) ≤ b.V) : ∃ q wh bl a c lo hi d i k g e, Qf b n q wh bl a c lo hi d i k g e := by
  have hV := valid_V hv
  have hV8 : b.V.toNat ≤ 8 := by omega
  have hnV : n < b.V.toNat + 1 := by omega
  have hx := atV_valid hv hn
  have hin : inB n 0 b.V = true := by simp [inB]; omega
  obtain ⟨d, i, hk, hdi⟩ := known_of hx
  have m8 : ∀ (f : Nat → Bool) k, k ≤ 9 → maskTo f k < 4611686018427387904 := fun f k h => mask_small h
  have w8 : ∀ l, whiteM l b.V.toNat < 4611686018427387904 := fun l => mask_small (by omega)
  have b8 : ∀ l, blackM l b.V.toNat < 4611686018427387904 := fun l => mask_small (by omega)
  by_cases ht : TL b = []
  · have e1 : toldE b true = 10 := by unfold toldE; simp [hv, ht]
    have e2 : toldE b (inB n 0 b.V) = 10 := by rw [hin]; exact e1
    refine ⟨0, 0, 0, 0, 0, 0, 0, d, i, _, 10, 10, ?_, ?_, ?_, ?_, hk, by omega, by omega, .inl ⟨rfl, rfl, rfl, rfl, rfl⟩⟩
    · unfold quietR; rw [e1, if_neg (by omega)]; rfl
    · unfold knownR; rw [e1, if_neg (by omega)]; rfl
    · unfold tellR; rw [e2, if_neg (by omega)]; rfl
    · unfold whitesR; rw [e1, if_neg (by omega)]; rfl
  · have e1 : toldE b true = 0 := by unfold toldE; simp [hv, ht]
    have e2 : toldE b (inB n 0 b.V) = 0 := by rw [hin]; exact e1
    have hq : quietR b = (((quietM (TL b) b.V.toNat (b.V.toNat + 1) : Nat) : Int), 0) := by unfold quietR; rw [if_pos e1]
    have hkn : knownR b = (((whiteM (TL b) b.V.toNat : Nat) : Int), ((blackM (TL b) b.V.toNat : Nat) : Int), 0) := by unfold knownR; rw [if_pos e1]
    have hwt : whitesR b = (((loL (TL b) : Nat) : Int), ((hiL (TL b) : Nat) : Int), 0) := by unfold whitesR; rw [if_pos e1]
    have q8 : quietM (TL b) b.V.toNat (b.V.toNat + 1) < 4611686018427387904 := m8 _ _ (by omega)
    have hqd : ((quietM (TL b) b.V.toNat (b.V.toNat + 1) : Nat) : Int) / 2 ^ (b.V.toNat + 1) = 0 := by
      have h1 : quietM (TL b) b.V.toNat (b.V.toNat + 1) < 2 ^ (b.V.toNat + 1) := maskTo_lt _ _
      have h2 : ((2 : Int) ^ (b.V.toNat + 1)) = ((2 ^ (b.V.toNat + 1) : Nat) : Int) := by simp
      rw [h2]
      exact_mod_cast Nat.div_eq_of_lt h1
    have hbit : bitI (quietM (TL b) b.V.toNat (b.V.toNat + 1)) n = if quietB (TL b) b.V.toNat n then 1 else 0 := bitI_mask _ hnV
    obtain ⟨l1, y1, hy1, hl1⟩ := loL_prop ht
    obtain ⟨u1, y2, hy2, hu1⟩ := hiL_prop ht
    have lo8 : loL (TL b) ≤ 8 := by have := sz_V hv hy1; omega
    by_cases hw : withL (TL b) n = []
    · have hno : ∀ x ∈ TL b, sz x ≠ n := by
        intro x hx e
        have : x ∈ withL (TL b) n := List.mem_filter.2 ⟨hx, by simp [e]⟩
        rw [hw] at this; cases this
      refine ⟨_, _, _, 0, 0, _, _, d, i, _, 4, 0, hq, hkn, ?_, hwt, hk, q8, lo8, .inr (.inr ⟨rfl, rfl, rfl, rfl, ?_, hqd, ?_, ?_, ?_⟩)⟩
      · unfold tellR; rw [if_pos e2, if_pos hw]; rfl
      · by_cases h1 : b.lo ≤ (n : Int)
        · by_cases h2 : (n : Int) ≤ b.hi
          · left
            refine ⟨?_, h1, h2⟩
            rw [TL_atV hv hn h1 h2, if_pos hw]
          · right; right; omega
        · right; left; omega
      · rw [hl1]; exact hno _ hy1
      · rw [hu1]; exact hno _ hy2
      · rw [hbit]
        have : quietB (TL b) b.V.toNat n = false := by unfold quietB; rw [hw]; rfl
        rw [this]; rfl
    · obtain ⟨x0, hx0⟩ := List.exists_mem_of_ne_nil _ hw
      obtain ⟨hx1, hx2⟩ := List.mem_filter.1 hx0
      have hsz : (sz x0 : Int) = (n : Int) := of_decide_eq_true hx2
      have hlh := TL_whites hv hx1
      have h1 : b.lo ≤ (n : Int) := by omega
      have h2 : (n : Int) ≤ b.hi := by omega
      have hT := TL_atV hv hn h1 h2
      rw [hT] at hk hdi
      obtain ⟨hd, hi⟩ := hdi hw
      have hVx : (atV b n).V = b.V := rfl
      rw [hVx] at hd hi
      have hmem : ∀ x ∈ withL (TL b) n, x ∈ TL b := fun x hx => (List.mem_filter.1 hx).1
      refine ⟨_, _, _, whiteM (withL (TL b) n) b.V.toNat, blackM (withL (TL b) n) b.V.toNat, _, _, d, i, _, 0, 0, hq, hkn, ?_, hwt, hk, q8, lo8, .inr (.inl ⟨rfl, rfl, ?_, h1, h2, hd, hi, hqd, ?_, ?_, ?_, ?_⟩)⟩
      · unfold tellR; rw [if_pos e2, if_neg hw]
      · rw [if_neg hw]
      · rw [andNot_i64 _ _ (w8 _) (w8 _), (andNot_zero _ _).2 (white_mono _ _ hmem _)]; rfl
      · rw [andNot_i64 _ _ (b8 _) (b8 _), (andNot_zero _ _).2 (black_mono _ _ hmem _)]; rfl
      · rw [hbit]
        have hpos : 0 < (withL (TL b) n).length := List.length_pos_iff.2 hw
        unfold quietB
        by_cases c1 : whiteM (withL (TL b) n) b.V.toNat = whiteM (TL b) b.V.toNat
        · by_cases c2 : blackM (withL (TL b) n) b.V.toNat = blackM (TL b) b.V.toNat
          · left; exact ⟨by simp [c1, c2, hpos], c1, c2⟩
          · right; left; exact ⟨by simp [c2], c1, c2⟩
        · right; right; exact ⟨by simp [c1], c1⟩
      · by_cases hlh2 : loL (TL b) = hiL (TL b)
        · right
          refine ⟨hlh2, ?_⟩
          have hall : ∀ x ∈ TL b, sz x = loL (TL b) := fun x hx => by have := l1 x hx; have := u1 x hx; omega
          apply Nat.eq_of_testBit_eq
          intro j
          unfold quietM
          rw [maskTo_test, Nat.testBit_two_pow]
          by_cases hj : j = loL (TL b)
          · subst hj
            have hself : withL (TL b) (loL (TL b) : Nat) = TL b := List.filter_eq_self.2 fun x hx => by simp [hall x hx]
            have hlt : loL (TL b) < b.V.toNat + 1 := by have := sz_V hv hy1; omega
            have hq1 : quietB (TL b) b.V.toNat (loL (TL b)) = true := by
              unfold quietB; rw [hself]
              simp [List.length_pos_iff.2 ht]
            rw [hq1, decide_eq_true hlt, decide_eq_true rfl]; rfl
          · have hnil : withL (TL b) (j : Nat) = [] := List.filter_eq_nil_iff.2 fun x hx => by simp [hall x hx]; omega
            have hq1 : quietB (TL b) b.V.toNat j = false := by unfold quietB; rw [hnil]; rfl
            rw [hq1, Bool.and_false, decide_eq_false (fun h => hj h.symm)]
        · exact .inl hlh2
end Go.Proofs.Ytjbjmoghloabpaa
/- The law BeanQuiet walked: valid votes. -/
set_option linter.unusedVariables false
set_option linter.unusedSimpArgs false
namespace Go.Proofs.Ytjbjmoghloabpaa
open Go.RowKit Go.Proofs
attribute [local irreducible] Ord.walk
theorem pow_i64 (k : Nat) (h : k < 62) : IntKind.i64.wrap ((2 : Int) ^ k) = (2 : Int) ^ k := by
  have e1 : ((2 : Int) ^ k) = ((2 ^ k : Nat) : Int) := by simp
  have h8 : 2 ^ k < 2 ^ 62 := Nat.pow_lt_pow_right (by omega) h
  have e : (2 : Nat) ^ 62 = 4611686018427387904 := rfl
  rw [e1]
  clear e1
  generalize 2 ^ k = x at *
  exact Lib.wrap_i64_small _ (by omega)
set_option maxHeartbeats 40000000 in
set_option maxRecDepth 100000 in
theorem w_Quiet_main (b : Bn) (ga : Option Addr) (gc : Nat) (pa : Option Addr) (pc : Nat) (n1 : Nat) (hn1 : n1 < 256) (w : World) (hg : GsAt w ga b.gs) (hp : PsAt w pa b.ps) (hv : valid b = true) :
    Calls Try.prog 9 #[bv b ga gc pa pc, .int .u8 n1] w (Gives (.bool true) w) := by
  have hln := valid_len hv
  have hV := valid_V hv
  have HL : Hid (∀ W, Calls Try.prog 12 #[bv b ga gc pa pc] W (Gives (.bool false) W)) := fun W => by
    have := l_long b ga gc pa pc W (by unfold maxLen; omega) (by unfold maxLen; omega)
    rwa [show longB b = false by unfold longB; exact decide_eq_false (by omega)] at this
  have HBn : Hid (∀ W, Below w.heap.size w W → Calls Try.prog 36 #[bv b ga gc pa pc] W (Gives (.bool true) W)) := fun W hb => by
    have := r_bean (hg.below hb) (hp.below hb) (ga := ga) (gc := gc) (pa := pa) (pc := pc) (by omega) (by omega)
    rwa [hv] at this
  obtain ⟨V, hVe⟩ : ∃ V : Nat, b.V = V := ⟨b.V.toNat, by omega⟩
  have hV8 : V ≤ 8 := by omega
  have hV1 : 1 ≤ V := by omega
  have hVn : b.V.toNat = V := by omega
  obtain ⟨n, hne⟩ : ∃ n, n1 % (V + 1) = n := ⟨_, rfl⟩
  have hnV : n < V + 1 := by rw [← hne]; exact Nat.mod_lt _ (by omega)
  have hr1 : (n1 : Int).tmod (b.V + 1) = (n : Int) := by rw [hVe, ← hne, Int.tmod_eq_emod_of_nonneg (by omega)]; rfl
  have hb0 : ¬ b.V + 1 = 0 := by omega
  obtain ⟨q, wh, bl, a, c, lo, hi, d, i, k, g, e, HF0⟩ := qf hv (show (n : Int) ≤ b.V by omega)
  have HF := Lib.hid HF0
  have hq3 := bit_i64 q n HF0.q8
  have hsl := pow_i64 lo (by have := HF0.lo8; omega)
  have hlo8 := HF0.lo8
  have hcase := HF0.case
  have htn : (b.V + 1).toNat = b.V.toNat + 1 := by omega
  rw [← htn] at hcase
  clear HF0 htn
  have I1 : Hid (∀ W, Below w.heap.size w W → Calls Try.prog 28 #[bv b ga gc pa pc] W (Gives2 (.int .i64 q) (.int .i64 e) W)) := fun W hb => by
    have := bb_Quiet b ga gc pa pc W (hg.below hb) (hp.below hb) (by omega) (by omega); rwa [HF.out.quiet] at this
  have I2 : Hid (∀ W, Below w.heap.size w W → Calls Try.prog 18 #[bv b ga gc pa pc] W (Gives3 (.int .i64 wh) (.int .i64 bl) (.int .i64 e) W)) := fun W hb => by
    have := bb_Known b ga gc pa pc W (hg.below hb) (hp.below hb) (by omega) (by omega); rwa [HF.out.known] at this
  have I3 : Hid (∀ W, Below w.heap.size w W → Calls Try.prog 26 #[bv b ga gc pa pc, .int .i64 n] W (Gives3 (.int .i64 a) (.int .i64 c) (.int .i64 g) W)) := fun W hb => by
    have := bb_Tell b ga gc pa pc W (hg.below hb) (hp.below hb) (by omega) (by omega) n; rwa [HF.out.tell] at this
  have I4 : Hid (∀ W, Below w.heap.size w W → Calls Try.prog 14 #[bv b ga gc pa pc] W (Gives2 (.agg #[.int .i64 lo, .int .i64 hi]) (.int .i64 e) W)) := fun W hb => by
    have := bb_Whites b ga gc pa pc W (hg.below hb) (hp.below hb) (by omega) (by omega); rwa [HF.out.whites] at this
  have I5 : Hid (∀ W, Below w.heap.size w W → Calls Try.prog 18 #[.agg #[.int .i64 b.V, .int .i64 b.nd, .int .i64 n, .int .i64 n, .slice ga b.gs.length gc, .slice pa b.ps.length pc]] W (Gives3 (.int .i64 d) (.int .i64 i) (.int .i64 k) W)) := fun W hb => by
    have := bb_Known (atV b n) ga gc pa pc W (hg.below hb) (hp.below hb) (by show b.gs.length ≤ 40; omega) (by show b.ps.length ≤ 40; omega); rwa [HF.out.kx] at this
  have HA := Lib.hid l_alive
  have HS := Lib.hid l_span
  have hV0 : 0 ≤ b.V := by omega
  have hVb : b.V ≤ 8 := by omega
  have hni : (n : Int) < 64 := by omega
  have hn64 : n < 64 := by omega
  clear hne hVe hVn hg hp HF hv
  unfold bv at *
  go_enter Try.func9, Try.ntmps9
  go_wp2_with (first
    | (go_at_call 12; refine (HL.out _).mono ?_; rintro e w1 ⟨rfl, hb1⟩; refine at_stop ?_))
  unfold Stop
  have bb := (Blk.new w #[.int .i64 b.V, .int .i64 b.nd, .int .i64 b.lo, .int .i64 b.hi, .slice ga b.gs.length gc, .slice pa b.ps.length pc] 27).below hb1 (by first | omega | (simp; done) | (simp; omega))
  have hB := ((Below.refl w.heap.size w).alloc (Nat.le_refl _) _).trans (hb1.mono (by first | omega | (simp; done) | (simp; omega)))
  clear hb1
  have rb := bb.cell
  go_upto_region 4 with (first
    | (go_at_call 36; refine (HBn.out _ hB).mono ?_; rintro e w2 ⟨rfl, hb2⟩; replace bb := bb.below hb2 bb.lt; replace hB := hB.trans (hb2.mono hB.size); clear hb2; replace rb := bb.cell))
  clear rb hr1 hb0 HL HBn hln hV hV8 hV1 hn1
  go_wp2_with (first
    | (refine wpList_load_blk 27 (.tmp 2) agg_bean rfl rfl rfl bb rfl ?_)
    | (go_at_call 28; refine (I1.out _ hB).mono ?_; rintro e w5 ⟨rfl, hb5⟩; replace bb := bb.below hb5 bb.lt; replace hB := hB.trans (hb5.mono hB.size); clear hb5)
    | (go_at_call 18; refine (I2.out _ hB).mono ?_; rintro e w5 ⟨rfl, hb5⟩; replace bb := bb.below hb5 bb.lt; replace hB := hB.trans (hb5.mono hB.size); clear hb5)
    | (go_at_call 26; refine (I3.out _ hB).mono ?_; rintro e w5 ⟨rfl, hb5⟩; replace bb := bb.below hb5 bb.lt; replace hB := hB.trans (hb5.mono hB.size); clear hb5)
    | (go_at_call 14; refine (I4.out _ hB).mono ?_; rintro e w5 ⟨rfl, hb5⟩; replace bb := bb.below hb5 bb.lt; replace hB := hB.trans (hb5.mono hB.size); clear hb5; refine at_stop ?_))
  unfold Stop
  clear I1 I2 I3 I4
  go_wp2_with (first
    | (refine wpList_store_blk 23 (.tmp 14) (.tmp 56) agg_span rfl rfl rfl rfl (Blk.new _ _ _) rfl rfl (by simp [Value.oneCell']) ?_; intro w6 h6; refine at_stop ?_))
  unfold Stop
  have bs := h6.blk
  have hlt14 : w.heap.size < w5.heap.size := bb.lt
  replace bb := h6.other (bb.alloc _) (by have := bb.lt; omega)
  replace hB := h6.below (hB.alloc hB.size _) hB.size
  clear h6
  generalize w5.heap.size = p14 at *
  clear w5
  rcases hcase with ⟨rfl, rfl, rfl, rfl, rfl⟩ | hcase
  · go_wp2_with (first
      | (go_at_call 13; refine (HA.out _).mono ?_; rintro e w7 ⟨rfl, hb7⟩))
    go_ret
    exact ⟨rfl, hB.trans (hb7.mono hB.size)⟩
  obtain rfl : e = 0 := by rcases hcase with ⟨h, _⟩ | ⟨h, _⟩ <;> exact h
  go_upto_region 13 with (first
    | (refine wpList_load_blk 27 (.tmp 2) agg_bean rfl rfl rfl bb rfl ?_)
    | (refine wpList_store_blk 27 (.tmp 16) (.tmp 90) agg_bean rfl rfl rfl rfl (Blk.new _ _ _) rfl rfl (by simp [Value.oneCell']) ?_; intro w7 h7))
  have bx := h7.blk
  have hs7 : w6.heap.size < w7.heap.size := bx.lt
  have hl1 := bb.lt
  have hl2 := bs.lt
  replace bb := h7.other (bb.alloc _) (by have := bb.lt; omega)
  replace bs := h7.other (bs.alloc _) (by have := bs.lt; omega)
  replace hB := h7.below (hB.alloc hB.size _) hB.size
  have hlt16 : w.heap.size < w6.heap.size ∧ p14 < w6.heap.size := ⟨hl1, hl2⟩
  clear h7
  generalize w6.heap.size = p16 at *
  clear w6
  go_wp2_with (first
    | (go_at_call 34; refine (HS.out _ _ _).mono ?_; rintro e w8 ⟨rfl, hb8⟩; refine at_stop ?_))
  unfold Stop
  replace bx := bx.below hb8 bx.lt
  replace bb := bb.below hb8 bb.lt
  replace bs := bs.below hb8 bs.lt
  replace hB := hB.trans (hb8.mono hB.size)
  have rx := bx.cell
  have fx := bx.free
  clear hb8 HS hs7 hl1 hl2
  go_upto_region 14 with fail
  have bx9 : Blk ((w8.setCell ⟨p16, 2, none⟩ (.int .i64 n)).setCell ⟨p16, 3, none⟩ (.int .i64 n)) p16 #[.int .i64 b.V, .int .i64 b.nd, .int .i64 n, .int .i64 n, .slice ga b.gs.length gc, .slice pa b.ps.length pc] 27 := (bx.set 2 _).set 3 _
  have bb9 : Blk ((w8.setCell ⟨p16, 2, none⟩ (.int .i64 n)).setCell ⟨p16, 3, none⟩ (.int .i64 n)) w.heap.size _ _ := (bb.other (by show _ ≠ p16; omega) _).other (by show _ ≠ p16; omega) _
  have bs9 : Blk ((w8.setCell ⟨p16, 2, none⟩ (.int .i64 n)).setCell ⟨p16, 3, none⟩ (.int .i64 n)) p14 _ _ := (bs.other (by show _ ≠ p16; omega) _).other (by show _ ≠ p16; omega) _
  have hB9 : Below w.heap.size w ((w8.setCell ⟨p16, 2, none⟩ (.int .i64 n)).setCell ⟨p16, 3, none⟩ (.int .i64 n)) := (hB.setCell (by show _ ≤ p16; omega) _).setCell (by show _ ≤ p16; omega) _
  obtain ⟨w9, hw9⟩ : ∃ w9, (w8.setCell ⟨p16, 2, none⟩ (.int .i64 n)).setCell ⟨p16, 3, none⟩ (.int .i64 n) = w9 := ⟨_, rfl⟩
  rw [hw9] at bx9 bb9 bs9 hB9
  rw [hw9]
  clear hw9 bx bb bs hB rx fx
  go_upto_region 15 with (first
    | (refine wpList_load_blk 27 (.tmp 16) agg_bean rfl rfl rfl bx9 rfl ?_)
    | (go_at_call 18; refine (I5.out _ hB9).mono ?_; rintro e w5 ⟨rfl, hb5⟩; clear bx9; replace bb9 := bb9.below hb5 bb9.lt; replace bs9 := bs9.below hb5 bs9.lt; replace hB9 := hB9.trans (hb5.mono hB9.size); clear hb5))
  have rb := bb9.cell
  have rs := bs9.cell
  clear I5 hlt14 hlt16 bb9 bs9
  generalize p14 = q14 at *
  rcases hcase with ⟨-, rfl, rfl, hl1, hl2, rfl, rfl, hqd, hwa, hbc, hbt, hlh⟩ | ⟨-, rfl, rfl, rfl, hcan, hqd, hln, hhn, hbt⟩
  · go_upto_region 16 with fail
    go_cut [164] from 117 to 164 (fun p wx => p = .bool false ∧ wx = w5)
    case first =>
      clear hbt hlh hwa hbc HA hB9 hl1 hl2 hq3 hsl hlo8
      obtain ⟨x1, hx⟩ : ∃ x1, ((lo : Int) == (n : Int)) = x1 := ⟨_, rfl⟩
      obtain ⟨x2, hy⟩ : ∃ x2, ((hi : Int) == (n : Int)) = x2 := ⟨_, rfl⟩
      cases x1 <;> cases x2
      all_goals go_wp2_with fail
      all_goals go_meet
      all_goals exact ⟨congrArg Value.bool (by first | rfl | (simp; done) | (simp; omega)), rfl⟩
    case rest =>
      obtain ⟨rfl, rfl⟩ := hcut
      generalize wc = wk at *
      clear hqd hl1 hl2 rb
      go_upto_region 20 with fail
      go_cut [210] from 175 to 210 (fun p wx => p = .bool false ∧ wx = wk)
      case first =>
        clear hlh HA hB9 hsl hlo8 rs
        rcases hbt with ⟨e1, rfl, rfl⟩ | ⟨e1, rfl, e2⟩ | ⟨e1, e2⟩
        · rw [e1] at hq3
          clear e1
          go_wp2_with fail
          go_meet
          exact ⟨congrArg Value.bool (by first | rfl | (simp; done) | (simp; omega)), rfl⟩
        · have e3 : ¬ (i : Int) = (bl : Int) := by omega
          rw [e1] at hq3
          clear e1 e2
          go_wp2_with fail
          go_meet
          exact ⟨congrArg Value.bool (by first | rfl | (simp; done) | (simp; omega)), rfl⟩
        · have e3 : ¬ (d : Int) = (wh : Int) := by omega
          rw [e1] at hq3
          clear e1 e2
          go_wp2_with fail
          go_meet
          exact ⟨congrArg Value.bool (by first | rfl | (simp; done) | (simp; omega)), rfl⟩
      case rest =>
        obtain ⟨rfl, rfl⟩ := hcut
        clear hbt hwa hbc hq3
        rcases hlh with hlh | ⟨rfl, rfl⟩
        · have hne : ¬ (lo : Int) = (hi : Int) := by omega
          clear hlh hsl
          go_wp2_with (first
            | (go_at_call 13; refine (HA.out _).mono ?_; rintro e w7 ⟨rfl, hb7⟩))
          go_ret
          exact ⟨ret_bool (by first | rfl | (simp; done) | (simp; omega)), hB9.trans (hb7.mono hB9.size)⟩
        · have hpc : ((2 ^ lo : Nat) : Int) = (2 : Int) ^ lo := by simp
          go_wp2_with (first
            | (go_at_call 13; refine (HA.out _).mono ?_; rintro e w7 ⟨rfl, hb7⟩))
          go_ret
          exact ⟨ret_bool (by first | rfl | (simp; done) | (simp; omega)), hB9.trans (hb7.mono hB9.size)⟩
  · have hln' : ¬ (lo : Int) = (n : Int) := by omega
    have hhn' : ¬ (hi : Int) = (n : Int) := by omega
    rw [hbt] at hq3
    clear hbt hln hhn hsl hlo8
    rcases hcan with ⟨rfl, h1, h2⟩ | h1 | ⟨h1, h2⟩
    · go_wp2_with (first
        | (go_at_call 13; refine (HA.out _).mono ?_; rintro e w7 ⟨rfl, hb7⟩))
      go_ret
      exact ⟨ret_bool (by first | rfl | (simp; done) | (simp; omega)), hB9.trans (hb7.mono hB9.size)⟩
    · have h3 : ¬ b.lo ≤ (n : Int) := by omega
      go_wp2_with (first
        | (go_at_call 13; refine (HA.out _).mono ?_; rintro e w7 ⟨rfl, hb7⟩))
      go_ret
      exact ⟨ret_bool (by first | rfl | (simp; done) | (simp; omega)), hB9.trans (hb7.mono hB9.size)⟩
    · have h3 : ¬ (n : Int) ≤ b.hi := by omega
      go_wp2_with (first
        | (go_at_call 13; refine (HA.out _).mono ?_; rintro e w7 ⟨rfl, hb7⟩))
      go_ret
      exact ⟨ret_bool (by first | rfl | (simp; done) | (simp; omega)), hB9.trans (hb7.mono hB9.size)⟩
end Go.Proofs.Ytjbjmoghloabpaa
