/- Parts of a proof: TrueA, BitA, Tru. -/
import Derived.Test.YtjbjmoghloabpaaM36
import Derived.OpenShut
import Derived.Test.YtjbjmoghloabpaaM02
import Derived.Laws.BitsAllLaws
import Derived.Lib.QuoteBits
import Derived.Test.YtjbjmoghloabpaaM35
/- The law BeanTrue walked: votes that are too long, or not valid. -/
set_option linter.unusedVariables false
set_option linter.unusedSimpArgs false
namespace Go.Proofs.Ytjbjmoghloabpaa
open Go.RowKit Go.Proofs
attribute [local irreducible] Ord.walk
theorem r_bean {b : Bn} {ga : Option Addr} {gc : Nat} {pa : Option Addr} {pc : Nat} {w : World} (hg : GsAt w ga b.gs) (hp : PsAt w pa b.ps) (hgl : b.gs.length ≤ 40) (hpl : b.ps.length ≤ 40) :
    Calls Try.prog 36 #[bv b ga gc pa pc] w (Gives (.bool (valid b)) w) := by
  cases h : headOk b
  · rw [headOk_no h]; exact r_bean_no b ga gc pa pc w (by omega) (by omega) h
  · exact r_bean_yes b ga gc pa pc w hg hp h
set_option maxHeartbeats 4000000 in
set_option maxRecDepth 100000 in
theorem w_True_long (b : Bn) (ga : Option Addr) (gc : Nat) (pa : Option Addr) (pc : Nat) (n1 : Int) (w : World) (hgl : b.gs.length ≤ maxLen) (hpl : b.ps.length ≤ maxLen) (hl : 40 < (max b.gs.length b.ps.length : Nat)) :
    Calls Try.prog 6 #[bv b ga gc pa pc, .int .u8 n1] w (Gives (.bool true) w) := by
  have HL : Hid (∀ W, Calls Try.prog 12 #[bv b ga gc pa pc] W (Gives (.bool true) W)) := fun W => by
    have := l_long b ga gc pa pc W hgl hpl
    rwa [show longB b = true by unfold longB; exact decide_eq_true hl] at this
  have HA := Lib.hid l_alive
  clear hgl hpl hl
  unfold bv at *
  go_enter Try.func6, Try.ntmps6
  go_wp2_with (first
    | (go_at_call 12; refine (HL.out _).mono ?_; rintro e w1 ⟨rfl, hb1⟩)
    | (go_at_call 13; refine (HA.out _).mono ?_; rintro e w2 ⟨rfl, hb2⟩))
  go_ret
  have hB1 : Below w.heap.size w w1 := ((Below.refl _ _).alloc (Nat.le_refl _) _).trans (hb1.mono (by simp))
  exact ⟨rfl, hB1.trans (hb2.mono hB1.size)⟩
set_option maxHeartbeats 4000000 in
set_option maxRecDepth 100000 in
theorem w_True_no (b : Bn) (ga : Option Addr) (gc : Nat) (pa : Option Addr) (pc : Nat) (n1 : Int) (w : World) (hg : GsAt w ga b.gs) (hp : PsAt w pa b.ps) (hgl : b.gs.length ≤ 40) (hpl : b.ps.length ≤ 40) (hv : valid b = false) :
    Calls Try.prog 6 #[bv b ga gc pa pc, .int .u8 n1] w (Gives (.bool true) w) := by
  have HL : Hid (∀ W, Calls Try.prog 12 #[bv b ga gc pa pc] W (Gives (.bool false) W)) := fun W => by
    have := l_long b ga gc pa pc W (by unfold maxLen; omega) (by unfold maxLen; omega)
    rwa [show longB b = false by unfold longB; exact decide_eq_false (by omega)] at this
  have HBn : Hid (∀ W, Below w.heap.size w W → Calls Try.prog 36 #[bv b ga gc pa pc] W (Gives (.bool false) W)) := fun W hb => by
    have := r_bean (hg.below hb) (hp.below hb) (ga := ga) (gc := gc) (pa := pa) (pc := pc) (by omega) (by omega)
    rwa [hv] at this
  have HA := Lib.hid l_alive
  clear hgl hpl hv hg hp
  unfold bv at *
  go_enter Try.func6, Try.ntmps6
  go_wp2_with (first
    | (go_at_call 12; refine (HL.out _).mono ?_; rintro e w1 ⟨rfl, hb1⟩; refine at_stop ?_))
  unfold Stop
  have bb := (Blk.new w #[.int .i64 b.V, .int .i64 b.nd, .int .i64 b.lo, .int .i64 b.hi, .slice ga b.gs.length gc, .slice pa b.ps.length pc] 27).below hb1 (by simp)
  have hB := ((Below.refl w.heap.size w).alloc (Nat.le_refl _) _).trans (hb1.mono (by simp))
  clear hb1
  have rb := bb.cell
  go_wp2_with (first
    | (go_at_call 36; refine (HBn.out _ hB).mono ?_; rintro e w2 ⟨rfl, hb2⟩)
    | (go_at_call 13; refine (HA.out _).mono ?_; rintro e w3 ⟨rfl, hb3⟩))
  go_ret
  replace hB := hB.trans (hb2.mono hB.size)
  exact ⟨rfl, hB.trans (hb3.mono hB.size)⟩
end Go.Proofs.Ytjbjmoghloabpaa
/- Bits of ints: and, and-not; how many bits are set, by taking away the lowest. -/
set_option linter.unusedVariables false
set_option linter.unusedSimpArgs false
namespace Go.Proofs.Ytjbjmoghloabpaa
open Go.RowKit Go.Proofs
attribute [local irreducible] Ord.walk
open Go.Lib (wrap_i64_small)
theorem and_i64 (x y : Nat) (hx : x < 4611686018427387904) (hy : y < 4611686018427387904) : bits .and .i64 (x : Int) (y : Int) = ((x &&& y : Nat) : Int) := by
  show IntKind.i64.wrap ((BitVec.ofInt 64 (x : Int) &&& BitVec.ofInt 64 (y : Int)).toNat : Int) = _
  rw [BitVec.toNat_and, ofInt_u64 x (by omega), ofInt_u64 y (by omega)]
  have : x &&& y ≤ x := Nat.and_le_left
  exact wrap_i64_small _ (by omega)
theorem andNot_nat (x y : Nat) (hx : x < 2 ^ 62) (hy : y < 2 ^ 62) : x &&& (2 ^ 64 - 1 - y) = x ^^^ (x &&& y) := by
  apply Nat.eq_of_testBit_eq
  intro i
  rw [Nat.testBit_and, Nat.testBit_xor, Nat.testBit_and]
  by_cases hi : i < 62
  · have : (2 ^ 64 - 1 - y).testBit i = !y.testBit i := by
      have h := Nat.testBit_two_pow_sub_succ (x := y) (n := 64) (by omega) i
      rw [show 2 ^ 64 - 1 - y = 2 ^ 64 - (y + 1) by omega, h]
      simp; omega
    rw [this]
    cases x.testBit i <;> cases y.testBit i <;> rfl
  · have : x.testBit i = false := Nat.testBit_lt_two_pow (Nat.lt_of_lt_of_le hx (Nat.pow_le_pow_right (by omega) (by omega)))
    rw [this]; simp
theorem andNot_i64 (x y : Nat) (hx : x < 4611686018427387904) (hy : y < 4611686018427387904) : bits .andNot .i64 (x : Int) (y : Int) = ((x ^^^ (x &&& y) : Nat) : Int) := by
  show IntKind.i64.wrap ((BitVec.ofInt 64 (x : Int) &&& ~~~BitVec.ofInt 64 (y : Int)).toNat : Int) = _
  rw [BitVec.toNat_and, BitVec.toNat_not, ofInt_u64 x (by omega), ofInt_u64 y (by omega), andNot_nat x y hx hy]
  have h1 : x ^^^ (x &&& y) < 2 ^ 62 := Nat.xor_lt_two_pow hx (Nat.and_lt_two_pow _ hy)
  exact wrap_i64_small _ (by have : (2:Nat) ^ 62 = 4611686018427387904 := rfl; omega)
theorem andNot_zero (x y : Nat) : x ^^^ (x &&& y) = 0 ↔ ∀ i, x.testBit i = true → y.testBit i = true := by
  constructor
  · intro h i hi
    have h2 := congrArg (fun z => Nat.testBit z i) h
    simp only [Nat.testBit_xor, Nat.testBit_and, Nat.zero_testBit, hi] at h2
    cases hy : y.testBit i
    · rw [hy] at h2; simp at h2
    · rfl
  · intro h
    apply Nat.eq_of_testBit_eq
    intro i
    rw [Nat.testBit_xor, Nat.testBit_and, Nat.zero_testBit]
    cases hx : x.testBit i
    · rfl
    · rw [h i hx]; rfl
theorem hasB_test (x i : Nat) : hasB x i = x.testBit i := by
  rw [Nat.testBit_eq_decide_div_mod_eq]; unfold hasB
  rw [Bool.eq_iff_iff]; simp
theorem sz_drop : ∀ s, s < 512 → s ≠ 0 → sz s = sz (s &&& (s - 1)) + 1 := by decide +kernel
theorem drop_lt (s : Nat) (h : s ≠ 0) : s &&& (s - 1) < s := by
  have : s &&& (s - 1) ≤ s - 1 := Nat.and_le_right
  omega
theorem l_size_f (f : Nat → Nat) (F0 : Hid (f 0 = 0)) (FD : Hid (∀ s, s < 512 → s ≠ 0 → f s = f (s &&& (s - 1)) + 1)) (FL : Hid (∀ s, f s ≤ 62)) (s : Nat) (hs : s < 512) (w : World) : Calls Try.prog 38 #[.int .i64 s] w (Same (.int .i64 (f s : Nat)) w) := by
  go_enter Try.func38, Try.ntmps38
  go_wp2
  go_loop [0, 2] (fun a n => ∃ t k : Nat, a = .int .i64 t ∧ n = .int .i64 k ∧ t < 512 ∧ Hid (k + f t = f s) ∧ k ≤ 62) (fun a _ => (intOf a).toNat)
  case atStart => exact ⟨s, 0, rfl, rfl, hs, (show _ = _ by omega), by omega⟩
  case round =>
    obtain ⟨t, k, rfl, rfl, ht, hk, hk2⟩ := hrel
    by_cases h0 : t = 0
    · subst h0
      have e : f s = k := by have := hk.out; rw [F0.out] at this; omega
      have HE := Lib.hid e
      clear e hk
      go_wp2
      go_ret
      exact ⟨by rw [HE.out]; rfl, rfl⟩
    · have ht0 : ¬ (t : Int) = 0 := by omega
      have hand : bits .and .i64 (t : Int) ((t : Int) - 1) = ((t &&& (t - 1) : Nat) : Int) := by
        rw [show (t : Int) - 1 = ((t - 1 : Nat) : Int) by omega]
        exact and_i64 t (t - 1) (by omega) (by omega)
      have hlt := drop_lt t h0
      have HK : Hid ((k + 1) + f (t &&& (t - 1)) = f s) := by show _ = _; have := hk.out; have := FD.out t ht h0; omega
      have hk3 : k + 1 ≤ 62 := by have := HK.out; have := FL.out s; omega
      clear hk
      generalize t &&& (t - 1) = t2 at *
      go_wp2
      go_round
      case rel => exact ⟨t2, k + 1, by go_num, by go_num, by omega, HK, hk3⟩
      case measure => simp [intOf]; omega
theorem l_size (s : Nat) (hs : s < 512) (w : World) : Calls Try.prog 38 #[.int .i64 s] w (Same (.int .i64 (sz s)) w) :=
  l_size_f sz rfl sz_drop (fun s => szN_le 62 s) s hs w
end Go.Proofs.Ytjbjmoghloabpaa
/- The law's truly: a vote in which all that is known is right, if a set of voters gave white beans. -/
set_option linter.unusedVariables false
set_option linter.unusedSimpArgs false
namespace Go.Proofs.Ytjbjmoghloabpaa
open Go.RowKit Go.Proofs
attribute [local irreducible] Ord.walk
/-- A span with a number, no wider than another one. -/
def abt (n most lo hi : Int) : Int × Int :=
  let wide := min most (hi - lo)
  let l := max 0 (n - wide / 2)
  (l, min most (max n (l + wide)))
theorem abt_in {n most lo hi : Int} (h0 : 0 ≤ n) (h1 : n ≤ most) (h2 : 0 ≤ lo) (h3 : lo ≤ hi) : 0 ≤ (abt n most lo hi).1 ∧ (abt n most lo hi).1 ≤ n ∧ n ≤ (abt n most lo hi).2 ∧ (abt n most lo hi).2 ≤ most := by
  unfold abt
  simp only
  omega
set_option maxHeartbeats 1000000 in
theorem l_about (n most lo hi : Int) (h0 : 0 ≤ n) (h1 : n ≤ 1000) (h2 : 0 ≤ most) (h3 : most ≤ 1000) (h4 : 0 ≤ lo) (h5 : lo ≤ hi) (h6 : hi ≤ 1000) (w : World) :
    Calls Try.prog 93 #[.int .i64 n, .int .i64 most, .agg #[.int .i64 lo, .int .i64 hi]] w (Gives (.agg #[.int .i64 (abt n most lo hi).1, .int .i64 (abt n most lo hi).2]) w) := by
  have S := Lib.hid l_span
  go_enter Try.func93, Try.ntmps93
  go_wp2_with (first
    | (go_at_call 34; refine (S.out _ _ _).mono ?_; rintro e w1 ⟨rfl, hb1⟩; refine at_stop ?_))
  unfold Stop
  have b1 : Blk w1 (w.heap.size + 1) #[.int .i64 0, .int .i64 0] 23 := (Blk.new' _ _ _ _ (by simp)).below hb1 (by first | omega | (simp; done) | (simp; omega))
  have hB : Below w.heap.size w w1 := ((((Below.refl _ _).alloc (Nat.le_refl _) _).alloc (by first | omega | (simp; done) | (simp; omega)) _).trans (hb1.mono (by first | omega | (simp; done) | (simp; omega))))
  go_wp2_with (refine wpList_store_blk 23 (.tmp 6) (.tmp 29) agg_span rfl rfl rfl rfl b1 rfl rfl (by simp [Value.oneCell']) ?_; intro w2 h2)
  (try simp only [Exit.inBlock, Exit.then])
  exact bodyPost_ret (v := .agg #[.int .i64 (abt n most lo hi).1, .int .i64 (abt n most lo hi).2]) (results_cell_blk rfl _ agg_span rfl h2.blk rfl) rfl ⟨rfl, h2.below hB (by omega)⟩
/-- A bit of a number, as an int. -/
def bitI (x i : Nat) : Int := ((x / 2 ^ i % 2 : Nat) : Int)
theorem bit_i64 (x i : Nat) (hx : x < 4611686018427387904) : bits .and .i64 ((x : Int) / 2 ^ i) 1 = bitI x i := by
  have e : (x : Int) / 2 ^ i = ((x / 2 ^ i : Nat) : Int) := by rw [Int.natCast_ediv]; push_cast; rfl
  have h := Nat.div_le_self x (2 ^ i)
  rw [e, show (1 : Int) = ((1 : Nat) : Int) from rfl, and_i64 _ 1 (by omega) (by omega), Nat.and_one_is_mod]
  rfl
theorem bitI_eq (x i j : Nat) : (bitI x i == bitI x j) = (hasB x i == hasB x j) := by
  unfold bitI hasB
  rcases Nat.mod_two_eq_zero_or_one (x / 2 ^ i) with h1 | h1 <;> rcases Nat.mod_two_eq_zero_or_one (x / 2 ^ j) with h2 | h2 <;> rw [h1, h2] <;> rfl
def trG (wh : Nat) (g : Int × Int × Int) : Int × Int × Int := (g.1, abt (sz (g.1.toNat &&& wh)) 8 g.2.1 g.2.2)
def trP (wh : Nat) (p : Int × Int × Bool) : Int × Int × Bool := (p.1, p.2.1, hasB wh p.1.toNat == hasB wh p.2.1.toNat)
def trulyB (b : Bn) (wh : Nat) : Bn := { V := b.V, nd := b.nd, lo := (abt (sz wh) b.V b.lo b.hi).1, hi := (abt (sz wh) b.V b.lo b.hi).2, gs := b.gs.map (trG wh), ps := b.ps.map (trP wh) }
/-- A cell of a vote that is built, a cell beside it. -/
def HT (p o p8 : Nat) (gv v : Value) (W : World) : Prop := W.cell? ⟨p, o, none⟩ = some gv ∧ W.cell? ⟨p8, 0, none⟩ = some v
theorem HT.below {p o p8 : Nat} {gv v : Value} {W W' : World} (h : HT p o p8 gv v W) (hb : Below W.heap.size W W') : HT p o p8 gv v W' := ⟨cell_later hb h.1, cell_later hb h.2⟩
theorem HT.alloc {p o p8 : Nat} {gv v : Value} {W : World} (h : HT p o p8 gv v W) (c : Obj) : HT p o p8 gv v (W.alloc c) := h.below ((Below.refl _ _).alloc (Nat.le_refl _) _)
theorem HT.drew {p o p8 : Nat} {gv v : Value} {W : World} (h : HT p o p8 gv v W) : HT p o p8 gv v W.drew := h

set_option maxHeartbeats 4000000 in
set_option maxRecDepth 100000 in
theorem l_truly (b : Bn) (ga : Option Addr) (gc : Nat) (pa : Option Addr) (pc : Nat) (wh : Nat) (w : World) (hg : GsAt w ga b.gs) (hp : PsAt w pa b.ps) (hv : valid b = true) (hw : wh < 256) :
    Calls Try.prog 37 #[bv b ga gc pa pc, .int .i64 wh] w (Votes (trulyB b wh) w) := by
  have HS := Lib.hid l_size
  have hV := valid_V hv
  have hsp := valid_wh hv
  have hszw := sz_le hw
  have hw9 : wh < 4611686018427387904 := by omega
  obtain ⟨i0, hi0, hz0, hz1, hz2⟩ := info_parts Try.info49
  obtain ⟨j0, hj0, kz0, kz1, kz2⟩ := info_parts Try.info54
  have HA : Hid (∀ W, Calls Try.prog 93 #[.int .i64 (sz wh : Nat), .int .i64 b.V, .agg #[.int .i64 b.lo, .int .i64 b.hi]] W (Gives (.agg #[.int .i64 (abt (sz wh) b.V b.lo b.hi).1, .int .i64 (abt (sz wh) b.V b.lo b.hi).2]) W)) :=
    fun W => l_about _ _ _ _ (by omega) (by omega) (by omega) (by omega) (by omega) (by omega) (by omega) W
  have HX := Lib.hid (l_size wh (by omega))
  have HR : Hid (trulyB b wh = { V := b.V, nd := b.nd, lo := (abt (sz wh) b.V b.lo b.hi).1, hi := (abt (sz wh) b.V b.lo b.hi).2, gs := b.gs.map (trG wh), ps := b.ps.map (trP wh) }) := rfl
  generalize (abt (sz wh) b.V b.lo b.hi) = ab at *
  obtain ⟨l2, h2⟩ := ab
  simp only at HA HR
  generalize sz wh = s0 at *
  generalize trulyB b wh = tb at *
  unfold bv at *
  go_enter Try.func37, Try.ntmps37
  go_wp2_with fail
  refine Ord.wp_region [(0, 0), (1, 0), (2, 0), (3, 0), (4, 0), (5, 0), (6, 0), (7, 2), (8, 0), (9, 2), (10, 0), (11, 2), (12, 0), (13, 2)] (fun _ => True) (by kernel_rfl) (by kernel_rfl) (fun c a d v w h => by cases d <;> exact h) trivial ?_
  go_wp2_with (first
    | (go_at_call 93; refine (HA.out _).mono ?_; rintro e w1 ⟨rfl, hb1⟩; refine at_stop ?_)
    | ((with_reducible refine Ord.at_calm ?_); refine Ord.calm_skip rfl ?_ (fun K hK => ?_); (focus (simp [Region.wanted, yielded]; done))) | with_reducible refine Ord.walk_calm rfl rfl (fun K hK => ?_) | ((with_reducible refine Ord.at_wild ?_); refine Ord.wild_fieldAddr rfl rfl (fun W => by simp [go_sem]; rfl) (fun K hK => ?_)) | ((with_reducible refine Ord.at_wild ?_); refine Ord.wild_move rfl rfl (fun K hK => ?_)) | ((with_reducible refine Ord.at_wild ?_); refine Ord.wild_nilCheck rfl rfl (fun K hK => ?_)) | with_reducible refine Ord.walk_eff rfl (by first | (simp; done) | assumption | (go_simp; done) | (repeat (first | assumption | exact Below.refl _ _ | refine Below.drew ?_ | refine Below.alloc ?_ (by first | omega | (simp; done) | (simp; omega)) _ | refine Below.setCell ?_ (by first | omega | (simp; done) | (simp; omega)) _ | refine Below.trans ?_ (Below.mono (by assumption) (by first | omega | (simp; done) | (simp; omega)))))) (fun K hK => ?_) | with_reducible refine Ord.at_fork ?_ ?_ | with_reducible refine Ord.walk_nil ?_ | (with_reducible refine Ord.next_of (by first | (simp; done) | (go_simp; done) | (repeat (first | assumption | exact Below.refl _ _ | refine Below.drew ?_ | refine Below.alloc ?_ (by first | omega | (simp; done) | (simp; omega)) _ | refine Below.setCell ?_ (by first | omega | (simp; done) | (simp; omega)) _ | refine Below.trans ?_ (Below.mono (by assumption) (by first | omega | (simp; done) | (simp; omega)))))) (fun _ => ?_))
    | ((with_reducible refine Ord.at_calm ?_); refine Ord.calm_call rfl (fun W => Try.call38 _ W) (HX.out _) (fun K hK => ?_)) | ((with_reducible refine Ord.at_wild ?_); refine Ord.wild_call rfl (fun W => Try.call38 _ W) (fun W hW => HX.out _) (fun K hK => ?_)))
  unfold Stop
  have hs1 : w.heap.size + 3 ≤ w1.heap.size := by have := hb1.size; simpa using this
  have b2 : Blk w1 w.heap.size #[.int .i64 b.V, .int .i64 b.nd, .int .i64 b.lo, .int .i64 b.hi, .slice ga b.gs.length gc, .slice pa b.ps.length pc] 27 := (((Blk.new w _ _).alloc _).alloc _).drew.below hb1 (by simp; omega)
  have b4 : Blk w1 (w.heap.size + 1) #[.int .i64 0, .int .i64 0, .int .i64 0, .int .i64 0, .slice none 0 0, .slice none 0 0] 27 := ((Blk.new' _ _ _ _ (by simp)).alloc _).drew.below hb1 (by simp)
  have b6 : Blk w1 (w.heap.size + 1 + 1) #[.int .i64 b.V, .int .i64 b.nd, .int .i64 b.lo, .int .i64 b.hi, .slice ga b.gs.length gc, .slice pa b.ps.length pc] 27 := (Blk.new' _ _ _ _ (by simp)).drew.below hb1 (by simp)
  have hB1 : Below w.heap.size w w1 := (((((Below.refl _ _).alloc (Nat.le_refl _) _).alloc (by first | omega | (simp; done) | (simp; omega)) _).alloc (by first | omega | (simp; done) | (simp; omega)) _).drew.trans (hb1.mono (by first | omega | (simp; done) | (simp; omega))))
  clear hb1
  have r6 := b6.cell
  have f6 := b6.free
  have r2 := b2.cell
  go_wp2_with (first
    | ((with_reducible refine Ord.at_calm ?_); refine Ord.calm_skip rfl ?_ (fun K hK => ?_); (focus (simp [Region.wanted, yielded]; done))) | with_reducible refine Ord.walk_calm rfl rfl (fun K hK => ?_) | ((with_reducible refine Ord.at_wild ?_); refine Ord.wild_fieldAddr rfl rfl (fun W => by simp [go_sem]; rfl) (fun K hK => ?_)) | ((with_reducible refine Ord.at_wild ?_); refine Ord.wild_move rfl rfl (fun K hK => ?_)) | ((with_reducible refine Ord.at_wild ?_); refine Ord.wild_nilCheck rfl rfl (fun K hK => ?_)) | with_reducible refine Ord.walk_eff rfl (by first | (simp; done) | assumption | (go_simp; done) | (repeat (first | assumption | exact Below.refl _ _ | refine Below.drew ?_ | refine Below.alloc ?_ (by first | omega | (simp; done) | (simp; omega)) _ | refine Below.setCell ?_ (by first | omega | (simp; done) | (simp; omega)) _ | refine Below.trans ?_ (Below.mono (by assumption) (by first | omega | (simp; done) | (simp; omega)))))) (fun K hK => ?_) | with_reducible refine Ord.at_fork ?_ ?_ | with_reducible refine Ord.walk_nil ?_ | (with_reducible refine Ord.next_of (by first | (simp; done) | (go_simp; done) | (repeat (first | assumption | exact Below.refl _ _ | refine Below.drew ?_ | refine Below.alloc ?_ (by first | omega | (simp; done) | (simp; omega)) _ | refine Below.setCell ?_ (by first | omega | (simp; done) | (simp; omega)) _ | refine Below.trans ?_ (Below.mono (by assumption) (by first | omega | (simp; done) | (simp; omega)))))) (fun _ => ?_)))
  obtain ⟨p6, hp6⟩ : ∃ p6, w.heap.size + 1 + 1 = p6 := ⟨_, rfl⟩
  rw [hp6] at b6
  have b6' : Blk ((((w1.setCell ⟨p6, 2, none⟩ (.int .i64 l2)).setCell ⟨p6, 3, none⟩ (.int .i64 h2)).setCell ⟨p6, 4, none⟩ (.slice none 0 0)).setCell ⟨p6, 5, none⟩ (.slice none 0 0)) p6 #[.int .i64 b.V, .int .i64 b.nd, .int .i64 l2, .int .i64 h2, .slice none 0 0, .slice none 0 0] 27 := (((b6.set 2 _).set 3 _).set 4 _).set 5 _
  have b2' : Blk ((((w1.setCell ⟨p6, 2, none⟩ (.int .i64 l2)).setCell ⟨p6, 3, none⟩ (.int .i64 h2)).setCell ⟨p6, 4, none⟩ (.slice none 0 0)).setCell ⟨p6, 5, none⟩ (.slice none 0 0)) w.heap.size _ _ := (((b2.other (by show _ ≠ p6; omega) _).other (by show _ ≠ p6; omega) _).other (by show _ ≠ p6; omega) _).other (by show _ ≠ p6; omega) _
  have b4' : Blk ((((w1.setCell ⟨p6, 2, none⟩ (.int .i64 l2)).setCell ⟨p6, 3, none⟩ (.int .i64 h2)).setCell ⟨p6, 4, none⟩ (.slice none 0 0)).setCell ⟨p6, 5, none⟩ (.slice none 0 0)) (w.heap.size + 1) _ _ := (((b4.other (by show _ ≠ p6; omega) _).other (by show _ ≠ p6; omega) _).other (by show _ ≠ p6; omega) _).other (by show _ ≠ p6; omega) _
  have hB2 : Below w.heap.size w ((((w1.setCell ⟨p6, 2, none⟩ (.int .i64 l2)).setCell ⟨p6, 3, none⟩ (.int .i64 h2)).setCell ⟨p6, 4, none⟩ (.slice none 0 0)).setCell ⟨p6, 5, none⟩ (.slice none 0 0)) := (((hB1.setCell (by show _ ≤ p6; omega) _).setCell (by show _ ≤ p6; omega) _).setCell (by show _ ≤ p6; omega) _).setCell (by show _ ≤ p6; omega) _
  rw [hp6]
  have HP6 := Lib.hid hp6
  clear hp6 r6 f6 r2 b6 b2 b4 hB1 HA HX
  have hs2 : p6 + 1 ≤ ((((w1.setCell ⟨p6, 2, none⟩ (.int .i64 l2)).setCell ⟨p6, 3, none⟩ (.int .i64 h2)).setCell ⟨p6, 4, none⟩ (.slice none 0 0)).setCell ⟨p6, 5, none⟩ (.slice none 0 0)).heap.size := b6'.lt
  generalize ((((w1.setCell ⟨p6, 2, none⟩ (.int .i64 l2)).setCell ⟨p6, 3, none⟩ (.int .i64 h2)).setCell ⟨p6, 4, none⟩ (.slice none 0 0)).setCell ⟨p6, 5, none⟩ (.slice none 0 0)) = w3 at *
  clear hs1 w1
  have HG := Lib.hid (fun (i : Nat) (hi : i < b.gs.length) => valid_g hv hi)
  have HPv := Lib.hid (fun (i : Nat) (hi : i < b.ps.length) => valid_p hv hi)
  have HL := Lib.hid (valid_len hv)
  clear hv hsp hszw hw
  rcases b with ⟨V, nd, lo, hi, gs, ps⟩
  simp only at *
  go_loopw [26] (fun i wr => ∃ (k : Nat) (gv : Value), k ≤ gs.length ∧ i = .int .i64 k ∧ Off [p6] w3.heap.size w3 wr ∧ Blk wr p6 #[.int .i64 V, .int .i64 nd, .int .i64 l2, .int .i64 h2, gv, .slice none 0 0] 27 ∧ wr.ownsRow w3.heap.size 49 3 gv k (((gs.take k).map (trG wh)).flatMap gcell)) (fun i _ => gs.length - (intOf i).toNat)
  case atStart => exact ⟨0, .slice none 0 0, by omega, rfl, Off.refl _ _ _, b6', World.ownsRow_nil _ _ _ _⟩
  case round =>
    obtain ⟨k, gv, hk, rfl, hO, b6, hown⟩ := hrel
    have hsO := hO.size
    by_cases hlt : k < gs.length
    · have hlti : (k : Int) < (gs.length : Int) := by omega
      have hgl4 := HL.out.1
      obtain ⟨gb, go, rfl, e1, e2, e3⟩ := hg k hlt
      have hgb : gb < w.heap.size := World.block_lt_of_cell? w _ e1
      have HP62 := HP6.out
      have hcell : ∀ o, wr.cell? ⟨gb, o, none⟩ = w.cell? ⟨gb, o, none⟩ := fun o => (hO.cell (a := ⟨gb, o, none⟩) (by show gb < _; omega) (by show gb ∉ [p6]; simp; omega)).trans (hB2.cell (p := ⟨gb, o, none⟩) hgb)
      have i1 := (hcell _).trans e1
      have i2 := (hcell _).trans e2
      have i3 := (hcell _).trans e3
      have hgk := HG.out k hlt
      have HTK := Lib.hid (List.take_succ_eq_append_getElem hlt)
      generalize gs[k] = g at *
      obtain ⟨g1, gl, gh⟩ := g
      simp only at i1 i2 i3 hgk
      obtain ⟨gn, rfl⟩ : ∃ gn : Nat, g1 = (gn : Int) := ⟨g1.toNat, by omega⟩
      have hand := and_i64 gn wh (by omega) (by omega)
      have hle : gn &&& wh ≤ gn := Nat.and_le_left
      have HXg := Lib.hid (l_size (gn &&& wh) (by omega))
      have hs8 := sz_le (w := gn &&& wh) (by omega)
      have HAg : Hid (∀ W, Calls Try.prog 93 #[.int .i64 (sz (gn &&& wh) : Nat), .int .i64 8, .agg #[.int .i64 gl, .int .i64 gh]] W (Gives (.agg #[.int .i64 (abt (sz (gn &&& wh)) 8 gl gh).1, .int .i64 (abt (sz (gn &&& wh)) 8 gl gh).2]) W)) :=
        fun W => l_about _ _ _ _ (by omega) (by omega) (by omega) (by omega) (by omega) (by omega) (by omega) W
      have HTG : Hid (trG wh ((gn : Int), gl, gh) = ((gn : Int), abt (sz (gn &&& wh)) 8 gl gh)) := rfl
      generalize (abt (sz (gn &&& wh)) 8 gl gh) = ab at *
      obtain ⟨l3, h3⟩ := ab
      simp only at HAg
      generalize sz (gn &&& wh) = s1 at *
      generalize gn &&& wh = gw at *
      clear e1 e2 e3 hcell
      have r6 := b6.cell
      go_wp2_with fail
      obtain ⟨w4, hw4⟩ : ∃ w4, w4 = wr.alloc (.cells #[.int .i64 (gn : Int), .int .i64 gl, .int .i64 gh] 49) := ⟨_, rfl⟩
      have b8 : Blk w4 wr.heap.size #[.int .i64 (gn : Int), .int .i64 gl, .int .i64 gh] 49 := by rw [hw4]; exact Blk.new _ _ _
      have b64 : Blk w4 p6 #[.int .i64 V, .int .i64 nd, .int .i64 l2, .int .i64 h2, gv, .slice none 0 0] 27 := by rw [hw4]; exact b6.alloc _
      have hO4 : Off [p6] w3.heap.size w3 w4 := by rw [hw4]; exact hO.alloc hsO _
      have hown4 := World.ownsRow.alloc hown (.cells #[.int .i64 (gn : Int), .int .i64 gl, .int .i64 gh] 49)
      rw [← hw4] at hown4
      have hs4 : w4.heap.size = wr.heap.size + 1 := by rw [hw4]; simp
      rw [← hw4]
      obtain ⟨p8, hp8⟩ : ∃ p8, wr.heap.size = p8 := ⟨_, rfl⟩
      rw [hp8] at b8 hs4
      simp only [hp8]
      have hp68 : p6 < p8 := by omega
      have hgv8 : gv.ownBlock ≠ some p8 := fun e => by have := (hown.lt p8 e).2; omega
      clear hw4 r6 b6 hown i1 i2 i3 hO
      have H4 : HT p6 4 p8 gv (.int .i64 (gn : Int)) w4 := ⟨by rw [b64.cell]; simp, by rw [b8.cell]; simp⟩
      have r8 := b8.cell
      have r6 := b64.cell
      refine Ord.Two.wp_region [(0, 1), (1, 1), (2, 1), (3, 1), (4, 0), (5, 0), (6, 0), (7, 0), (8, 0), (9, 0), (10, 0), (11, 0), (12, 2), (13, 0), (14, 2), (15, 2), (16, 0)] [(17, 2)] (HT p6 4 p8 gv (.int .i64 (gn : Int))) (by kernel_rfl) (by kernel_rfl) (fun c a d v w h => by cases d <;> exact h) H4.drew ?_
      go_wp2_with (first
        | (with_reducible refine Ord.Two.walk_next ?_)
        | (at_builtin; refine at_stop ?_)
        | (go_at_call 93; refine (HAg.out _).mono ?_; rintro e w5 ⟨rfl, hb5⟩; refine at_stop ?_)
        | ((with_reducible refine Ord.at_wild ?_); refine Ord.wild_load (ad := ⟨p6, 4, none⟩) gv rfl rfl ?_ ?_; (focus (intro W hW; simp [go_sem, hW.1]; done)); intro K hK)
        | ((with_reducible refine Ord.at_wild ?_); refine Ord.wild_load (ad := ⟨p8, 0, none⟩) (.int .i64 (gn : Int)) rfl rfl ?_ ?_; (focus (intro W hW; simp [go_sem, hW.2]; done)); intro K hK)
        | ((with_reducible refine Ord.walk_eff rfl ?_ (fun K hK => ?_)); (focus (first | exact H4.drew | exact H4)))
        | ((with_reducible refine Ord.next_of ?_ (fun hOF => ?_)); (focus (first | exact H4.drew | exact H4)))
        | ((with_reducible refine Ord.at_calm ?_); refine Ord.calm_skip rfl ?_ (fun K hK => ?_); (focus (simp [Region.wanted, yielded]; done))) | with_reducible refine Ord.walk_calm rfl rfl (fun K hK => ?_) | ((with_reducible refine Ord.at_wild ?_); refine Ord.wild_fieldAddr rfl rfl (fun W => by simp [go_sem]; rfl) (fun K hK => ?_)) | ((with_reducible refine Ord.at_wild ?_); refine Ord.wild_move rfl rfl (fun K hK => ?_)) | ((with_reducible refine Ord.at_wild ?_); refine Ord.wild_nilCheck rfl rfl (fun K hK => ?_)) | with_reducible refine Ord.walk_eff rfl (by first | (simp; done) | assumption | (go_simp; done) | (repeat (first | assumption | exact Below.refl _ _ | refine Below.drew ?_ | refine Below.alloc ?_ (by first | omega | (simp; done) | (simp; omega)) _ | refine Below.setCell ?_ (by first | omega | (simp; done) | (simp; omega)) _ | refine Below.trans ?_ (Below.mono (by assumption) (by first | omega | (simp; done) | (simp; omega)))))) (fun K hK => ?_) | with_reducible refine Ord.at_fork ?_ ?_ | with_reducible refine Ord.walk_nil ?_ | (with_reducible refine Ord.next_of (by first | (simp; done) | (go_simp; done) | (repeat (first | assumption | exact Below.refl _ _ | refine Below.drew ?_ | refine Below.alloc ?_ (by first | omega | (simp; done) | (simp; omega)) _ | refine Below.setCell ?_ (by first | omega | (simp; done) | (simp; omega)) _ | refine Below.trans ?_ (Below.mono (by assumption) (by first | omega | (simp; done) | (simp; omega)))))) (fun _ => ?_))
        | ((with_reducible refine Ord.at_calm ?_); refine Ord.calm_call rfl (fun W => Try.call38 _ W) (HXg.out _) (fun K hK => ?_)) | ((with_reducible refine Ord.at_wild ?_); refine Ord.wild_call rfl (fun W => Try.call38 _ W) (fun W hW => HXg.out _) (fun K hK => ?_)))
      unfold Stop
      have hb45 : Below w4.heap.size w4 w5 := (Below.refl _ _).drew.trans hb5
      have H5 := H4.below hb45
      have hown5 := ownsRow_below hown4 hb45
      have b65 := b64.below hb45 b64.lt
      have hs5 := hb45.size
      have hO5 : Off [p6] w3.heap.size w3 w5 := hO4.trans (Off.of_below hb45 (by omega))
      clear hb5 hb45 hown4 b64 H4 b8 r8 r6 hO4
      go_wp2_with (first
        | (with_reducible refine Ord.Two.walk_next ?_)
        | (at_builtin; refine at_stop ?_)
        | ((with_reducible refine Ord.walk_eff rfl ?_ (fun K hK => ?_)); (focus (first | exact H5.alloc _ | exact H5)))
        | ((with_reducible refine Ord.next_of ?_ (fun hOF => ?_)); (focus (first | exact H5.alloc _ | exact H5)))
        | ((with_reducible refine Ord.at_calm ?_); refine Ord.calm_skip rfl ?_ (fun K hK => ?_); (focus (simp [Region.wanted, yielded]; done))) | with_reducible refine Ord.walk_calm rfl rfl (fun K hK => ?_) | ((with_reducible refine Ord.at_wild ?_); refine Ord.wild_fieldAddr rfl rfl (fun W => by simp [go_sem]; rfl) (fun K hK => ?_)) | ((with_reducible refine Ord.at_wild ?_); refine Ord.wild_move rfl rfl (fun K hK => ?_)) | ((with_reducible refine Ord.at_wild ?_); refine Ord.wild_nilCheck rfl rfl (fun K hK => ?_)) | with_reducible refine Ord.walk_eff rfl (by first | (simp; done) | assumption | (go_simp; done) | (repeat (first | assumption | exact Below.refl _ _ | refine Below.drew ?_ | refine Below.alloc ?_ (by first | omega | (simp; done) | (simp; omega)) _ | refine Below.setCell ?_ (by first | omega | (simp; done) | (simp; omega)) _ | refine Below.trans ?_ (Below.mono (by assumption) (by first | omega | (simp; done) | (simp; omega)))))) (fun K hK => ?_) | with_reducible refine Ord.at_fork ?_ ?_ | with_reducible refine Ord.walk_nil ?_ | (with_reducible refine Ord.next_of (by first | (simp; done) | (go_simp; done) | (repeat (first | assumption | exact Below.refl _ _ | refine Below.drew ?_ | refine Below.alloc ?_ (by first | omega | (simp; done) | (simp; omega)) _ | refine Below.setCell ?_ (by first | omega | (simp; done) | (simp; omega)) _ | refine Below.trans ?_ (Below.mono (by assumption) (by first | omega | (simp; done) | (simp; omega)))))) (fun _ => ?_)))
      unfold Stop
      refine wpList_append_own _ rfl (.tmp 31) (.tmp 44) 24 rfl w3.heap.size 49 i0 (.agg #[.int .i64 0, .int .i64 0, .int .i64 0]) 3 24 Try.underlying24 hi0 hz0 hz1 hz2 rfl (by decide) gv k (((gs.take k).map (trG wh)).flatMap gcell) rfl (World.ownsRow.alloc hown5 _) ⟨w5.heap.size, 0, none⟩ 1 1 (gcell ((gn : Int), l3, h3)) rfl rfl (news_blk (A := #[.int .i64 (gn : Int), .int .i64 l3, .int .i64 h3]) (Blk.new _ _ _)) (by simp [gcell, Value.oneCell']) (by have := HL.out.1; unfold maxLen; omega) (by have := HL.out.1; omega) (by simp; omega) ?_
      intro v6 w6 hown6 hgrow6 _
      obtain ⟨g6, q6, rfl⟩ := own_slice hown6 (by omega)
      have hne : gv.ownBlock ≠ some p6 := fun e => by have := (hown5.lt p6 e).1; omega
      have b66 : Blk w6 p6 _ _ := (hgrow6.block p6 (by simp; omega) (Ne.symm hne)).trans (b65.alloc _)
      have hO6 : Off [p6] w3.heap.size w3 w6 := (hO5.alloc (by omega) _).grown hgrow6 (by simp; omega) (fun g hg => .inr (hown5.lt g hg).1)
      have c6 : w6.cell? ⟨p6, 4, none⟩ = some gv := by rw [b66.cell]; simp
      have f6 : w6.frozen? ⟨p6, 4, none⟩ = false := b66.free 4
      have H6 : HT p6 4 p8 gv (.int .i64 (gn : Int)) w6 := ⟨c6, (hgrow6.cell (cell_later ((Below.refl _ _).alloc (Nat.le_refl _) _) H5.2) (fun e => hgv8 e.symm))⟩
      go_wp2_with (first
        | (with_reducible refine Ord.Two.walk_next ?_)
        | ((with_reducible refine Ord.walk_eff rfl ?_ (fun K hK => ?_)); (focus (first | trivial | exact H6)))
        | ((with_reducible refine Ord.next_of ?_ (fun hOF => ?_)); (focus (first | exact H6 | trivial)))
        | ((with_reducible refine Ord.at_calm ?_); refine Ord.calm_skip rfl ?_ (fun K hK => ?_); (focus (simp [Region.wanted, yielded]; done))) | with_reducible refine Ord.walk_calm rfl rfl (fun K hK => ?_) | ((with_reducible refine Ord.at_wild ?_); refine Ord.wild_fieldAddr rfl rfl (fun W => by simp [go_sem]; rfl) (fun K hK => ?_)) | ((with_reducible refine Ord.at_wild ?_); refine Ord.wild_move rfl rfl (fun K hK => ?_)) | ((with_reducible refine Ord.at_wild ?_); refine Ord.wild_nilCheck rfl rfl (fun K hK => ?_)) | with_reducible refine Ord.walk_eff rfl (by first | (simp; done) | assumption | (go_simp; done) | (repeat (first | assumption | exact Below.refl _ _ | refine Below.drew ?_ | refine Below.alloc ?_ (by first | omega | (simp; done) | (simp; omega)) _ | refine Below.setCell ?_ (by first | omega | (simp; done) | (simp; omega)) _ | refine Below.trans ?_ (Below.mono (by assumption) (by first | omega | (simp; done) | (simp; omega)))))) (fun K hK => ?_) | with_reducible refine Ord.at_fork ?_ ?_ | with_reducible refine Ord.walk_nil ?_ | (with_reducible refine Ord.next_of (by first | (simp; done) | (go_simp; done) | (repeat (first | assumption | exact Below.refl _ _ | refine Below.drew ?_ | refine Below.alloc ?_ (by first | omega | (simp; done) | (simp; omega)) _ | refine Below.setCell ?_ (by first | omega | (simp; done) | (simp; omega)) _ | refine Below.trans ?_ (Below.mono (by assumption) (by first | omega | (simp; done) | (simp; omega)))))) (fun _ => ?_)))
      refine ⟨⟨k + 1, .slice (some ⟨g6, 0, none⟩) (k + 1) q6, by omega, by go_num, hO6.setCell (.inl (by simp)) _, b66.set 4 _, ?_⟩, by simp [intOf]; omega⟩
      have hown7 := own_store hown6 (Nat.le_refl _) b66 (by decide) (fun j hj => Below.heap_setCell w6 ⟨p6, 4, none⟩ (.slice (some ⟨g6, 0, none⟩) (k + 1) q6) j hj)
      rw [HTK.out, List.map_append, List.flatMap_append]
      simpa [HTG.out] using hown7
    · have hlti : ¬ (k : Int) < (gs.length : Int) := by omega
      have e : k = gs.length := by omega
      subst e
      rw [List.take_length] at hown
      have HP62 := HP6.out
      have b2 : Blk wr w.heap.size _ _ := hO.blk b2' (by have := b2'.lt; omega) (by simp; omega)
      have b4 : Blk wr (w.heap.size + 1) _ _ := hO.blk b4' (by have := b4'.lt; omega) (by simp; omega)
      have hBr : Below w.heap.size w wr := hB2.trans (hO.below (by omega) (by simp; omega))
      have r2 := b2.cell
      clear hO b6' b2' b4' HG
      go_wp2_with fail
      have hp6q := b6.lt
      have hsq := hBr.size
      generalize wr = wq at *
      clear wr
      go_loopw [51] (fun i wr => ∃ (j : Nat) (pv : Value), j ≤ ps.length ∧ i = .int .i64 j ∧ Off [p6] wq.heap.size wq wr ∧ Blk wr p6 #[.int .i64 V, .int .i64 nd, .int .i64 l2, .int .i64 h2, gv, pv] 27 ∧ wr.ownsRow wq.heap.size 54 3 pv j (((ps.take j).map (trP wh)).flatMap pcell)) (fun i _ => ps.length - (intOf i).toNat)
      case atStart => exact ⟨0, .slice none 0 0, by omega, rfl, Off.refl _ _ _, b6, World.ownsRow_nil _ _ _ _⟩
      case round =>
        obtain ⟨j, pv, hj, rfl, hOx, bx6, hownx⟩ := hrel
        have hsx := hOx.size
        by_cases hjt : j < ps.length
        · have hjti : (j : Int) < (ps.length : Int) := by omega
          have hpl4 := HL.out.2
          obtain ⟨pb, po, rfl, e1, e2, e3⟩ := hp j hjt
          have hpb : pb < w.heap.size := World.block_lt_of_cell? w _ e1
          have hcell : ∀ o, wr.cell? ⟨pb, o, none⟩ = w.cell? ⟨pb, o, none⟩ := fun o => (hOx.cell (a := ⟨pb, o, none⟩) (by show pb < _; omega) (by show pb ∉ [p6]; simp; omega)).trans (hBr.cell (p := ⟨pb, o, none⟩) hpb)
          have i1 := (hcell _).trans e1
          have i2 := (hcell _).trans e2
          have i3 := (hcell _).trans e3
          have hpk := HPv.out j hjt
          have HTK := Lib.hid (List.take_succ_eq_append_getElem hjt)
          generalize ps[j] = pp at *
          obtain ⟨pA, pB, pS⟩ := pp
          simp only at i1 i2 i3 hpk
          obtain ⟨pa1, rfl⟩ : ∃ n : Nat, pA = (n : Int) := ⟨pA.toNat, by omega⟩
          obtain ⟨pb1, rfl⟩ : ∃ n : Nat, pB = (n : Int) := ⟨pB.toNat, by omega⟩
          have hq1 := bit_i64 wh pa1 hw9
          have hq2 := bit_i64 wh pb1 hw9
          have HTP : Hid (trP wh ((pa1 : Int), (pb1 : Int), pS) = ((pa1 : Int), (pb1 : Int), ((bitI wh pa1 : Int) == (bitI wh pb1 : Int)))) := by
            show _ = _
            unfold trP
            rw [bitI_eq]; rfl
          generalize bitI wh pa1 = q1 at *
          generalize bitI wh pb1 = q2 at *
          clear e1 e2 e3 hcell
          have r6 := bx6.cell
          have f6 := bx6.free
          go_wp2_with fail
          refine Ord.wp_region [(0, 0), (1, 0), (2, 0), (3, 0), (4, 0), (5, 0), (6, 0), (7, 0), (8, 0), (9, 0), (10, 0), (11, 0), (12, 2)] (fun _ => True) (by kernel_rfl) (by kernel_rfl) (fun c a d v w h => by cases d <;> exact h) trivial ?_
          go_wp2_with (first
            | (at_builtin; refine at_stop ?_)
            | ((with_reducible refine Ord.at_calm ?_); refine Ord.calm_skip rfl ?_ (fun K hK => ?_); (focus (simp [Region.wanted, yielded]; done))) | with_reducible refine Ord.walk_calm rfl rfl (fun K hK => ?_) | ((with_reducible refine Ord.at_wild ?_); refine Ord.wild_fieldAddr rfl rfl (fun W => by simp [go_sem]; rfl) (fun K hK => ?_)) | ((with_reducible refine Ord.at_wild ?_); refine Ord.wild_move rfl rfl (fun K hK => ?_)) | ((with_reducible refine Ord.at_wild ?_); refine Ord.wild_nilCheck rfl rfl (fun K hK => ?_)) | with_reducible refine Ord.walk_eff rfl (by first | (simp; done) | assumption | (go_simp; done) | (repeat (first | assumption | exact Below.refl _ _ | refine Below.drew ?_ | refine Below.alloc ?_ (by first | omega | (simp; done) | (simp; omega)) _ | refine Below.setCell ?_ (by first | omega | (simp; done) | (simp; omega)) _ | refine Below.trans ?_ (Below.mono (by assumption) (by first | omega | (simp; done) | (simp; omega)))))) (fun K hK => ?_) | with_reducible refine Ord.at_fork ?_ ?_ | with_reducible refine Ord.walk_nil ?_ | (with_reducible refine Ord.next_of (by first | (simp; done) | (go_simp; done) | (repeat (first | assumption | exact Below.refl _ _ | refine Below.drew ?_ | refine Below.alloc ?_ (by first | omega | (simp; done) | (simp; omega)) _ | refine Below.setCell ?_ (by first | omega | (simp; done) | (simp; omega)) _ | refine Below.trans ?_ (Below.mono (by assumption) (by first | omega | (simp; done) | (simp; omega)))))) (fun _ => ?_)))
          unfold Stop
          refine wpList_append_own _ rfl (.tmp 68) (.tmp 70) 25 rfl wq.heap.size 54 j0 (.agg #[.int .i64 0, .int .i64 0, .bool false]) 3 24 Try.underlying25 hj0 kz0 kz1 kz2 rfl (by decide) pv j (((ps.take j).map (trP wh)).flatMap pcell) rfl (World.ownsRow.alloc (World.ownsRow.alloc hownx _) _).drew ⟨wr.heap.size + 1, 0, none⟩ 1 1 (pcell ((pa1 : Int), (pb1 : Int), (q1 == q2))) rfl rfl (news_blk (A := #[.int .i64 (pa1 : Int), .int .i64 (pb1 : Int), .bool (q1 == q2)]) (Blk.new' _ _ _ _ (by simp)).drew) (by simp [pcell, Value.oneCell']) (by unfold maxLen; omega) (by omega) (by simp; omega) ?_
          intro v6 w6 hown6 hgrow6 _
          obtain ⟨g6, q6, rfl⟩ := own_slice hown6 (by omega)
          have hne : pv.ownBlock ≠ some p6 := fun e => by have := (hownx.lt p6 e).1; omega
          have b66 : Blk w6 p6 _ _ := (hgrow6.block p6 (by simp; omega) (Ne.symm hne)).trans ((bx6.alloc _).alloc _).drew
          have hO6 : Off [p6] wq.heap.size wq w6 := ((((hOx.alloc hsx _).alloc (by simp; omega) _).drew).grown hgrow6 (by simp; omega) (fun g hg => .inr (hownx.lt g hg).1))
          have c6 : w6.cell? ⟨p6, 5, none⟩ = some pv := by rw [b66.cell]; simp
          have f6' : w6.frozen? ⟨p6, 5, none⟩ = false := b66.free 5
          clear r6 f6 hgrow6 i1 i2 i3
          go_wp2_with fail
          refine ⟨⟨j + 1, .slice (some ⟨g6, 0, none⟩) (j + 1) q6, by omega, by go_num, hO6.setCell (.inl (by simp)) _, b66.set 5 _, ?_⟩, by simp [intOf]; omega⟩
          have hown7 := own_store hown6 (Nat.le_refl _) b66 (by decide) (fun k hk => Below.heap_setCell w6 ⟨p6, 5, none⟩ (.slice (some ⟨g6, 0, none⟩) (j + 1) q6) k hk)
          rw [HTK.out, List.map_append, List.flatMap_append]
          simpa [HTP.out] using hown7
        · have hjti : ¬ (j : Int) < (ps.length : Int) := by omega
          have e : j = ps.length := by omega
          subst e
          rw [List.take_length] at hownx
          have c2 : Blk wr (w.heap.size + 1) _ _ := hOx.blk b4 (by omega) (by simp; omega)
          have hBx : Below w.heap.size w wr := hBr.trans (hOx.below (by omega) (by simp; omega))
          have hOG : wr.ownsRow w3.heap.size 49 3 gv gs.length ((gs.map (trG wh)).flatMap gcell) :=
            own_move hown (Nat.le_refl _) fun g hg => hOx.block g (hown.lt g hg).2 (by have := (hown.lt g hg).1; simp; omega)
          have ho1 : gv.oneCell' = true := by obtain ⟨a, c, rfl⟩ := own_nil3 hOG; rfl
          have ho2 : pv.oneCell' = true := by obtain ⟨a, c, rfl⟩ := own_nil3 hownx; rfl
          obtain rfl := HR.out
          go_wp2_with (first
            | (refine wpList_load_blk 27 (.tmp 6) agg_bean rfl rfl rfl bx6 rfl ?_)
            | (refine wpList_store_blk 27 (.tmp 4) (.tmp 74) agg_bean rfl rfl rfl rfl c2 rfl rfl (by simp [ho1, ho2]; simp [Value.oneCell']) ?_; intro w7 h7))
          (try simp only [Exit.inBlock, Exit.then])
          refine bodyPost_ret (v := .agg #[.int .i64 V, .int .i64 nd, .int .i64 l2, .int .i64 h2, gv, pv]) (results_cell_blk rfl _ agg_bean rfl h7.blk rfl) rfl ⟨_, rfl, ⟨gv, pv, rfl, ?_, ?_⟩, ?_⟩
          · have := own_store hOG (show w.heap.size ≤ _ by omega) c2 (by decide) h7.heap
            simpa [OwnG] using this
          · have := own_store hownx (show w.heap.size ≤ _ by omega) c2 (by decide) h7.heap
            simpa [OwnP] using this
          · exact h7.below hBx (by omega)
end Go.Proofs.Ytjbjmoghloabpaa
