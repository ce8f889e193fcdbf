/- Parts of a proof: BnAH, Stab. -/
import Derived.Test.YtjbjmoghloabpaaP17
import Derived.Sort.Defs
import Derived.Sort.Lot0
set_option linter.unusedVariables false
set_option linter.unusedSimpArgs false
namespace Go.Proofs.Ytjbjmoghloabpaa
open Go.RowKit Go.Proofs
attribute [local irreducible] Ord.walk
/-- Which numbers can be told without anybody's being found out, of those below a number. -/
def quietTo (c : Nat → Nat) (V : Nat) (lo hi : Int) (ks : List Kn) : Nat → Nat
  | 0 => 0
  | n + 1 => if 0 < c n ∧ sureTo (atN n) V lo hi ks V = sureTo csum V lo hi ks V then quietTo c V lo hi ks n + 2 ^ n else quietTo c V lo hi ks n
theorem quietTo_lt (c : Nat → Nat) (V : Nat) (lo hi : Int) (ks : List Kn) (n : Nat) : quietTo c V lo hi ks n < 2 ^ n := by
  induction n with
  | zero => simp [quietTo]
  | succ n ih => rw [Nat.pow_succ, quietTo]; split <;> omega
theorem i64_or_pow9 : ∀ a < 512, ∀ i < 9, a < 2 ^ i → bits .or .i64 ((a : Nat) : Int) ((2 ^ i : Nat) : Int) = ((a + 2 ^ i : Nat) : Int) := by decide +kernel
set_option maxHeartbeats 4000000 in
set_option maxRecDepth 100000 in
theorem b_Quiet_ok (b : Bn) (ga : Option Addr) (gc : Nat) (pa : Option Addr) (pc : Nat) (w : World) (hg : GsAt w ga b.gs) (hp : PsAt w pa b.ps) (hv : valid b = true) (hs : 0 < csum (countN b.V.toNat b.lo b.hi (knOf b))) (V : Nat) (hVe : b.V = V) :
    Calls Try.prog 28 #[bv b ga gc pa pc] w (Gives2 (.int .i64 (quietTo (countN b.V.toNat b.lo b.hi (knOf b)) b.V.toNat b.lo b.hi (knOf b) (V + 1) : Nat)) (.int .i64 0) w) := by
  have hmf : ∀ (fn : Fn) (first cap : Array Value) (w : World), (Instr.makeFunc fn first cap).run Try.prog w = .ok (.func fn first cap) w := fun _ _ _ _ => rfl
  have HO := Lib.hid (fun w' (hb : Below w.heap.size w w') => b_open_ok b ga gc pa pc 46 #[] w' (hg.below hb) (hp.below hb) hv (fun args W => Try.call46 args W) (fun w2 v _ _ => b_always _ _))
  have HC := Lib.hid catch_Quiet
  have HS := Lib.hid hs
  have HT := Lib.hid (fun w1 v ka kc (hvt : Vt w1 v b b.V.toNat (knOf b) ga gc pa pc ka kc) => b_told_yes hvt HS.out)
  have hle := countN_sum b.V.toNat (by have := valid_V hv; omega) b.lo b.hi (knOf b)
  have q1 := cv_size (countN b.V.toNat b.lo b.hi (knOf b))
  have q2 := cv_ones (countN b.V.toNat b.lo b.hi (knOf b))
  have hcv : Hid (cv (countN b.V.toNat b.lo b.hi (knOf b)) = .agg (ocells (countN b.V.toNat b.lo b.hi (knOf b)))) := rfl
  have HU := Lib.hid (fun w1 v ka kc (hvt : Vt w1 v b b.V.toNat (knOf b) ga gc pa pc ka kc) => b_sure_all hvt)
  have HQ : Hid (∀ w1 v ka kc, Vt w1 v b ((V : Int)).toNat (knOf b) ga gc pa pc ka kc → ∀ (pb n : Nat), n < 9 → w1.cell? ⟨pb, 0, none⟩ = some (.int .i64 n) →
      Calls Try.prog 63 #[.pointer (some ⟨v, 0, none⟩), .func (.func 81) #[] #[.pointer (some ⟨pb, 0, none⟩)]] w1 (Gives (.agg #[.int .i64 (sureTo (atN n) ((V : Int)).toNat b.lo b.hi (knOf b) ((V : Int)).toNat).1, .int .i64 (sureTo (atN n) ((V : Int)).toNat b.lo b.hi (knOf b) ((V : Int)).toNat).2]) w1)) := by
    rw [← hVe]; intro w1 v ka kc hvt pb n hn hp; exact b_sure_quiet hvt pb n hn hp
  have HM : Hid (∀ k : Nat, k ≤ 8 → ∀ W, Calls Try.prog 48 #[cv (countN b.V.toNat b.lo b.hi (knOf b)), .int .i64 (k : Int)] W (Gives (.bool (decide (0 < countN b.V.toNat b.lo b.hi (knOf b) k))) W)) := fun k hk W => b_some (countN b.V.toNat b.lo b.hi (knOf b)) (k : Int) k rfl (by omega) W
  have hV := valid_V hv
  have hV8 : V ≤ 8 := by omega
  have HL := Lib.hid (quietTo_lt (countN b.V.toNat b.lo b.hi (knOf b)) b.V.toNat b.lo b.hi (knOf b))
  have HSt : Hid (∀ n, quietTo (countN b.V.toNat b.lo b.hi (knOf b)) b.V.toNat b.lo b.hi (knOf b) (n + 1) = if 0 < countN b.V.toNat b.lo b.hi (knOf b) n ∧ sureTo (atN n) ((V : Int)).toNat b.lo b.hi (knOf b) ((V : Int)).toNat = sureTo csum b.V.toNat b.lo b.hi (knOf b) b.V.toNat then quietTo (countN b.V.toNat b.lo b.hi (knOf b)) b.V.toNat b.lo b.hi (knOf b) n + 2 ^ n else quietTo (countN b.V.toNat b.lo b.hi (knOf b)) b.V.toNat b.lo b.hi (knOf b) n) := by rw [← hVe]; exact fun n => rfl
  have H0 : Hid (quietTo (countN b.V.toNat b.lo b.hi (knOf b)) b.V.toNat b.lo b.hi (knOf b) 0 = 0) := rfl
  clear hs hle hV
  have HVE := Lib.hid hVe
  clear hVe
  generalize quietTo (countN b.V.toNat b.lo b.hi (knOf b)) b.V.toNat b.lo b.hi (knOf b) = QT at *
  generalize sureTo csum b.V.toNat b.lo b.hi (knOf b) b.V.toNat = SU at *
  obtain ⟨SQ, hSQ⟩ : ∃ SQ : Nat → Nat × Nat, ∀ n, sureTo (atN n) ((V : Int)).toNat b.lo b.hi (knOf b) ((V : Int)).toNat = SQ n := ⟨_, fun n => rfl⟩
  simp only [hSQ] at HQ HSt
  clear hSQ
  generalize countN b.V.toNat b.lo b.hi (knOf b) = c at *
  have hcv2 := hcv
  generalize hCV : cv c = CV at *
  have HCV := Lib.hid hCV
  clear hCV
  generalize ocells c = OC at *
  obtain rfl := hcv.out
  clear hcv hcv2
  unfold bv at *
  go_enter_defers Try.func28, Try.ntmps28
  refine wp_noPanic ?_
  go_wp2_with fail
  with_reducible refine (HO.out _ (by (repeat (first | assumption | exact Below.refl _ _ | refine Below.drew ?_ | refine Below.alloc ?_ (by first | omega | (simp; done) | (simp; omega)) _ | refine Below.setCell ?_ (by first | omega | (simp; done) | (simp; omega)) _ | refine Below.trans ?_ (Below.mono (by assumption) (by first | omega | (simp; done) | (simp; omega))))))).mono ?_
  rintro e w1 ⟨v, ka, kc, rfl, hvt, hb1, hle⟩
  go_wp2_with fail
  with_reducible refine (HT.out _ _ _ _ hvt).mono ?_
  rintro e w2 ⟨rfl, hb2⟩
  go_wp2_with (first
    | (refine wpList_store_blk 62 (.tmp 5) (.tmp 13) agg_counts rfl rfl rfl rfl (Blk.new _ _ _) rfl q1 q2 ?_; intro w3 h3; refine at_stop ?_))
  unfold Stop
  have z1 := hb1.size
  have z2 := hb2.size
  simp only [World.size_alloc] at z1
  have b1 : Blk w3 w.heap.size #[.int .i64 b.V, .int .i64 b.nd, .int .i64 b.lo, .int .i64 b.hi, .slice ga b.gs.length gc, .slice pa b.ps.length pc] 27 :=
    h3.other ((((((Blk.new w _ _).alloc _).below hb1 (by first | omega | (simp; done) | (simp; omega))).below hb2 (by omega)).alloc _)) (by omega)
  have b3 : Blk w3 (w.heap.size + 1) #[.int .i64 0] 30 :=
    h3.other ((((Blk.new' _ _ _ _ (by simp)).below hb1 (by first | omega | (simp; done) | (simp; omega))).below hb2 (by omega)).alloc _) (by omega)
  have b4 := h3.blk
  have hB13 : Below w1.heap.size w1 w3 := h3.below (hb2.alloc z2 _) z2
  have hvt3 := hvt.below hB13
  have hB3 : Below w.heap.size w w3 := h3.below ((((((Below.refl _ _).alloc (Nat.le_refl _) _).alloc (by first | omega | (simp; done) | (simp; omega)) _).trans (hb1.mono (by first | omega | (simp; done) | (simp; omega)))).trans (hb2.mono (by omega))).alloc (by omega) _) (by omega)
  have z3 := hB3.size
  have l4 := b4.lt
  clear hb1 hb2 h3 hvt hB13
  go_wp2_with fail
  with_reducible refine (HU.out _ _ _ _ hvt3).mono ?_
  rintro e w4 ⟨rfl, hb4⟩
  go_wp2_with (first
    | (refine wpList_store_blk 80 (.tmp 6) (.tmp 15) agg_sets rfl rfl rfl rfl (Blk.new _ _ _) rfl rfl (by simp [Value.oneCell']) ?_; intro w5 h5; refine at_stop ?_))
  unfold Stop
  have z4 := hb4.size
  have c1 := h5.other ((b1.below hb4 b1.lt).alloc _) (by have := b1.lt; omega)
  have c3 := h5.other ((b3.below hb4 b3.lt).alloc _) (by have := b3.lt; omega)
  have c4 := h5.other ((b4.below hb4 b4.lt).alloc _) (by have := b4.lt; omega)
  have c6 := h5.blk
  have hB35 : Below w3.heap.size w3 w5 := h5.below (hb4.alloc z4 _) z4
  have hvt5 := hvt3.below hB35
  have hB5 : Below w.heap.size w w5 := hB3.trans (hB35.mono z3)
  have z5 := hB5.size
  clear b1 b3 b4 hvt3 hB35 hb4 h5 hB3
  rw [HVE.out] at *
  have r1 := c1.cell 0
  have c1l := c1.lt
  have c3l := c3.lt
  have c4l := c4.lt
  have c6l := c6.lt
  go_wp2_with fail
  go_loopw [7, 19] (fun a i wr => ∃ k : Nat, k ≤ V + 1 ∧ i = .int .i64 k ∧ a = .int .i64 (QT k : Nat) ∧ Below w5.heap.size w5 wr) (fun _ i _ => V + 1 - (intOf i).toNat)
  case atStart => exact ⟨0, by omega, rfl, by rw [H0.out]; rfl, Below.refl _ _⟩
  case round =>
    obtain ⟨k, hk, rfl, rfl, hbw⟩ := hrel
    by_cases hlt : k < V + 1
    · have hlti : (k : Int) < (V : Int) + 1 := by omega
      have hMk := HM.out k (by omega)
      have HStk := Lib.hid (HSt.out k)
      have hvtr := hvt5.below hbw
      have d4 := c4.below hbw c4l
      have d6 := c6.below hbw c6l
      have zr := hbw.size
      by_cases hc : 0 < c k
      · rw [decide_eq_true hc] at hMk
        have HMK := Lib.hid hMk
        clear hMk
        have HQk := Lib.hid (fun w1 (h : Vt w1 v b ((V : Int)).toNat (knOf b) ga gc pa pc ka kc) pb hp => HQ.out w1 v ka kc h pb k (by omega) hp)
        generalize SQ k = sq at HStk HQk
        obtain ⟨sw, sb⟩ := sq
        obtain ⟨tw, tb⟩ := SU
        simp only at HStk HQk d6
        go_wp2_with fail
        have e4 := d4.alloc (.cells #[.int .i64 k] 3)
        have e6 := d6.alloc (.cells #[.int .i64 k] 3)
        have bn := Blk.new wr #[.int .i64 k] 3
        have rn := bn.cell 0
        have l4 := d4.lt
        have l6 := d6.lt
        refine Ord.wp_region [(0, 0), (1, 0), (2, 2), (3, 0), (4, 0), (5, 0), (7, 1), (6, 2), (8, 0), (9, 0)] (fun W => Below (wr.heap.size + 1) (wr.alloc (.cells #[.int .i64 k] 3)) W) (by kernel_rfl) (by kernel_rfl) (fun c a d v w h => by cases d <;> exact h) (Below.refl _ _).drew ?_
        go_wp2_with (first
          | (refine wpList_load_blk 62 (.tmp 5) agg_counts rfl rfl rfl e4 q1 ?_)
          | (go_at_call 48; refine (HMK.out _).mono ?_; rintro e w7 ⟨rfl, hb7⟩; refine at_stop ?_)
          | ((with_reducible refine Ord.at_calm ?_); refine Ord.calm_skip rfl ?_ (fun K hK => ?_); (focus (simp [Region.wanted, yielded]; done))) | with_reducible refine Ord.walk_calm rfl rfl (fun K hK => ?_) | ((with_reducible refine Ord.at_wild ?_); refine Ord.wild_fieldAddr rfl rfl (fun W => by simp [go_sem]; rfl) (fun K hK => ?_)) | ((with_reducible refine Ord.at_wild ?_); refine Ord.wild_move rfl rfl (fun K hK => ?_)) | ((with_reducible refine Ord.at_wild ?_); refine Ord.wild_nilCheck rfl rfl (fun K hK => ?_)) | with_reducible refine Ord.walk_eff rfl (by first | (simp; done) | assumption | (go_simp; done) | (repeat (first | assumption | exact Below.refl _ _ | refine Below.drew ?_ | refine Below.alloc ?_ (by first | omega | (simp; done) | (simp; omega)) _ | refine Below.setCell ?_ (by first | omega | (simp; done) | (simp; omega)) _ | refine Below.trans ?_ (Below.mono (by assumption) (by first | omega | (simp; done) | (simp; omega)))))) (fun K hK => ?_) | with_reducible refine Ord.at_fork ?_ ?_ | with_reducible refine Ord.walk_nil ?_ | (with_reducible refine Ord.next_of (by first | (simp; done) | (go_simp; done) | (repeat (first | assumption | exact Below.refl _ _ | refine Below.drew ?_ | refine Below.alloc ?_ (by first | omega | (simp; done) | (simp; omega)) _ | refine Below.setCell ?_ (by first | omega | (simp; done) | (simp; omega)) _ | refine Below.trans ?_ (Below.mono (by assumption) (by first | omega | (simp; done) | (simp; omega)))))) (fun _ => ?_)))
        unfold Stop
        have hA7 : Below (wr.heap.size + 1) (wr.alloc (.cells #[.int .i64 k] 3)) w7 := (Below.refl _ _).drew.trans (hb7.mono (by simp))
        have hB7 : Below wr.heap.size wr w7 := ((Below.refl _ _).alloc (Nat.le_refl _) _).trans (hA7.mono (by omega))
        have hvt7 := hvtr.below hB7
        have n7 := (bn.below hA7 (by omega)).cell 0
        clear hb7
        go_wp2_with (first
          | ((with_reducible refine Ord.at_wild ?_); refine Ord.wild_load (ad := ⟨w4.heap.size, 0, none⟩) (.agg #[.int .i64 tw, .int .i64 tb]) rfl rfl ?_ ?_; (focus (intro W hW; exact loadVar_blk agg_sets (e6.below hW (by omega)) rfl)); intro K hK)
          | (go_at_call 63; refine (HQk.out _ hvt7 _ n7).mono ?_; rintro e w8 ⟨rfl, hb8⟩; refine at_stop ?_)
          | ((with_reducible refine Ord.at_calm ?_); refine Ord.calm_skip rfl ?_ (fun K hK => ?_); (focus (simp [Region.wanted, yielded]; done))) | with_reducible refine Ord.walk_calm rfl rfl (fun K hK => ?_) | ((with_reducible refine Ord.at_wild ?_); refine Ord.wild_fieldAddr rfl rfl (fun W => by simp [go_sem]; rfl) (fun K hK => ?_)) | ((with_reducible refine Ord.at_wild ?_); refine Ord.wild_move rfl rfl (fun K hK => ?_)) | ((with_reducible refine Ord.at_wild ?_); refine Ord.wild_nilCheck rfl rfl (fun K hK => ?_)) | with_reducible refine Ord.walk_eff rfl (by first | (simp; done) | assumption | (go_simp; done) | (repeat (first | assumption | exact Below.refl _ _ | refine Below.drew ?_ | refine Below.alloc ?_ (by first | omega | (simp; done) | (simp; omega)) _ | refine Below.setCell ?_ (by first | omega | (simp; done) | (simp; omega)) _ | refine Below.trans ?_ (Below.mono (by assumption) (by first | omega | (simp; done) | (simp; omega)))))) (fun K hK => ?_) | with_reducible refine Ord.at_fork ?_ ?_ | with_reducible refine Ord.walk_nil ?_ | (with_reducible refine Ord.next_of (by first | (simp; done) | (go_simp; done) | (repeat (first | assumption | exact Below.refl _ _ | refine Below.drew ?_ | refine Below.alloc ?_ (by first | omega | (simp; done) | (simp; omega)) _ | refine Below.setCell ?_ (by first | omega | (simp; done) | (simp; omega)) _ | refine Below.trans ?_ (Below.mono (by assumption) (by first | omega | (simp; done) | (simp; omega)))))) (fun _ => ?_)))
        unfold Stop
        have hA8 : Below (wr.heap.size + 1) (wr.alloc (.cells #[.int .i64 k] 3)) w8 := hA7.trans (hb8.mono (by have := hA7.size; simpa using this))
        have n8 := (bn.below hA8 (by omega)).cell 0
        go_wp2_with (first
          | ((with_reducible refine Ord.at_calm ?_); refine Ord.calm_skip rfl ?_ (fun K hK => ?_); (focus (simp [Region.wanted, yielded]; done))) | with_reducible refine Ord.walk_calm rfl rfl (fun K hK => ?_) | ((with_reducible refine Ord.at_wild ?_); refine Ord.wild_fieldAddr rfl rfl (fun W => by simp [go_sem]; rfl) (fun K hK => ?_)) | ((with_reducible refine Ord.at_wild ?_); refine Ord.wild_move rfl rfl (fun K hK => ?_)) | ((with_reducible refine Ord.at_wild ?_); refine Ord.wild_nilCheck rfl rfl (fun K hK => ?_)) | with_reducible refine Ord.walk_eff rfl (by first | (simp; done) | assumption | (go_simp; done) | (repeat (first | assumption | exact Below.refl _ _ | refine Below.drew ?_ | refine Below.alloc ?_ (by first | omega | (simp; done) | (simp; omega)) _ | refine Below.setCell ?_ (by first | omega | (simp; done) | (simp; omega)) _ | refine Below.trans ?_ (Below.mono (by assumption) (by first | omega | (simp; done) | (simp; omega)))))) (fun K hK => ?_) | with_reducible refine Ord.at_fork ?_ ?_ | with_reducible refine Ord.walk_nil ?_ | (with_reducible refine Ord.next_of (by first | (simp; done) | (go_simp; done) | (repeat (first | assumption | exact Below.refl _ _ | refine Below.drew ?_ | refine Below.alloc ?_ (by first | omega | (simp; done) | (simp; omega)) _ | refine Below.setCell ?_ (by first | omega | (simp; done) | (simp; omega)) _ | refine Below.trans ?_ (Below.mono (by assumption) (by first | omega | (simp; done) | (simp; omega)))))) (fun _ => ?_)))
        all_goals
          have hp2 : QT k < 2 ^ k := HL.out k
          have hp8 := Nat.pow_le_pow_right (show 0 < 2 by omega) (show k ≤ 8 by omega)
          have hor := i64_or_pow9 (QT k) (by have e : (2 : Nat) ^ 8 = 256 := rfl; omega) k (by omega) hp2
          have hwp := wrap_pow k (by omega)
          refine ⟨⟨k + 1, by omega, by go_num, ?_, hbw.trans ((((Below.refl _ _).alloc (Nat.le_refl _) _).trans (hA8.mono (by omega))).mono zr)⟩, by simp [intOf]; omega⟩
          first
            | (rw [HStk.out, if_pos ⟨hc, by simp only [Prod.mk.injEq]; constructor <;> omega⟩, hwp, hor]; done)
            | (rw [HStk.out, if_neg (by rintro ⟨_, h⟩; simp only [Prod.mk.injEq] at h; omega)]; done)
      · rw [decide_eq_false hc] at hMk
        have HMK := Lib.hid hMk
        clear hMk
        go_wp2_with fail
        have e4 := d4.alloc (.cells #[.int .i64 k] 3)
        have bn := Blk.new wr #[.int .i64 k] 3
        have rn := bn.cell 0
        refine Ord.wp_region [(0, 0), (1, 0), (2, 2), (3, 0), (4, 0), (5, 0), (7, 0), (6, 0), (8, 0), (9, 0)] (fun W => True) (by kernel_rfl) (by kernel_rfl) (fun c a d v w h => by cases d <;> exact h) trivial ?_
        go_wp2_with (first
          | (refine wpList_load_blk 62 (.tmp 5) agg_counts rfl rfl rfl e4 q1 ?_)
          | (go_at_call 48; refine (HMK.out _).mono ?_; rintro e w7 ⟨rfl, hb7⟩; refine at_stop ?_)
          | ((with_reducible refine Ord.at_calm ?_); refine Ord.calm_skip rfl ?_ (fun K hK => ?_); (focus (simp [Region.wanted, yielded]; done))) | with_reducible refine Ord.walk_calm rfl rfl (fun K hK => ?_) | ((with_reducible refine Ord.at_wild ?_); refine Ord.wild_fieldAddr rfl rfl (fun W => by simp [go_sem]; rfl) (fun K hK => ?_)) | ((with_reducible refine Ord.at_wild ?_); refine Ord.wild_move rfl rfl (fun K hK => ?_)) | ((with_reducible refine Ord.at_wild ?_); refine Ord.wild_nilCheck rfl rfl (fun K hK => ?_)) | with_reducible refine Ord.walk_eff rfl (by first | (simp; done) | assumption | (go_simp; done) | (repeat (first | assumption | exact Below.refl _ _ | refine Below.drew ?_ | refine Below.alloc ?_ (by first | omega | (simp; done) | (simp; omega)) _ | refine Below.setCell ?_ (by first | omega | (simp; done) | (simp; omega)) _ | refine Below.trans ?_ (Below.mono (by assumption) (by first | omega | (simp; done) | (simp; omega)))))) (fun K hK => ?_) | with_reducible refine Ord.at_fork ?_ ?_ | with_reducible refine Ord.walk_nil ?_ | (with_reducible refine Ord.next_of (by first | (simp; done) | (go_simp; done) | (repeat (first | assumption | exact Below.refl _ _ | refine Below.drew ?_ | refine Below.alloc ?_ (by first | omega | (simp; done) | (simp; omega)) _ | refine Below.setCell ?_ (by first | omega | (simp; done) | (simp; omega)) _ | refine Below.trans ?_ (Below.mono (by assumption) (by first | omega | (simp; done) | (simp; omega)))))) (fun _ => ?_)))
        unfold Stop
        have hA7 : Below (wr.heap.size + 1) (wr.alloc (.cells #[.int .i64 k] 3)) w7 := (Below.refl _ _).drew.trans (hb7.mono (by simp))
        clear hb7
        go_wp2_with (first
          | ((with_reducible refine Ord.at_calm ?_); refine Ord.calm_skip rfl ?_ (fun K hK => ?_); (focus (simp [Region.wanted, yielded]; done))) | with_reducible refine Ord.walk_calm rfl rfl (fun K hK => ?_) | ((with_reducible refine Ord.at_wild ?_); refine Ord.wild_fieldAddr rfl rfl (fun W => by simp [go_sem]; rfl) (fun K hK => ?_)) | ((with_reducible refine Ord.at_wild ?_); refine Ord.wild_move rfl rfl (fun K hK => ?_)) | ((with_reducible refine Ord.at_wild ?_); refine Ord.wild_nilCheck rfl rfl (fun K hK => ?_)) | with_reducible refine Ord.walk_eff rfl (by first | (simp; done) | assumption | (go_simp; done) | (repeat (first | assumption | exact Below.refl _ _ | refine Below.drew ?_ | refine Below.alloc ?_ (by first | omega | (simp; done) | (simp; omega)) _ | refine Below.setCell ?_ (by first | omega | (simp; done) | (simp; omega)) _ | refine Below.trans ?_ (Below.mono (by assumption) (by first | omega | (simp; done) | (simp; omega)))))) (fun K hK => ?_) | with_reducible refine Ord.at_fork ?_ ?_ | with_reducible refine Ord.walk_nil ?_ | (with_reducible refine Ord.next_of (by first | (simp; done) | (go_simp; done) | (repeat (first | assumption | exact Below.refl _ _ | refine Below.drew ?_ | refine Below.alloc ?_ (by first | omega | (simp; done) | (simp; omega)) _ | refine Below.setCell ?_ (by first | omega | (simp; done) | (simp; omega)) _ | refine Below.trans ?_ (Below.mono (by assumption) (by first | omega | (simp; done) | (simp; omega)))))) (fun _ => ?_)))
        refine ⟨⟨k + 1, by omega, by go_num, ?_, hbw.trans ((((Below.refl _ _).alloc (Nat.le_refl _) _).trans (hA7.mono (by omega))).mono zr)⟩, by simp [intOf]; omega⟩
        rw [HStk.out, if_neg (fun h => hc h.1)]
    · have hlti : ¬ (k : Int) < (V : Int) + 1 := by omega
      obtain rfl : k = V + 1 := by omega
      have d3 := c3.below hbw c3l
      have r3 := d3.cell
      have f3 := d3.free
      go_wp2_with fail
      have hB6 : Below w.heap.size w wr := hB5.trans (hbw.mono z5)
      refine noPanic_ret ?_
      refine leaves_cons (f := 80) (args := #[.pointer (some ⟨w.heap.size + 1, 0, none⟩)]) (by simp) (by simp [go_sem]) ?_
      refine ((HC.out).2 (w.heap.size + 1) _).mono ?_
      rintro e u' w7 ⟨rfl, rfl, rfl⟩
      have r7 := (d3.set 0 (.int .i64 0)).cell
      simp only [settle, Leaves]
      simp [Leaves, settle, results, Try.results28, go_sem, r7]
      exact ⟨rfl, hB6.setCell (by first | omega | (simp; done) | (simp; omega)) _⟩
end Go.Proofs.Ytjbjmoghloabpaa
set_option linter.unusedVariables false
set_option linter.unusedSimpArgs false
namespace Go.Proofs.Ytjbjmoghloabpaa.Stab
open Go.Proofs Go.Sort

/-- How a row is read, and how two places of it are exchanged. -/
structure Ops (S α : Type) where
  get : S → Nat → α
  sw : S → Nat → Nat → S
section
variable {S α : Type} (O : Ops S α)

/-- Exchange of two ranges of k places. -/
def swr (a b : Nat) (d : S) : Nat → S
  | 0 => d
  | k + 1 => O.sw (swr a b d k) (a + k) (b + k)
/-- The loop of rotate. -/
def rot (m : Nat) : Nat → Nat → Nat → S → S
  | 0, _, _, d => d
  | f + 1, i, j, d => if i = j then swr O (m - i) m d i else if j < i then rot m f (i - j) j (swr O (m - i) m d j) else rot m f i (j - i) (swr O (m - i) (m + j - i) d i)
def rotate (a m b : Nat) (d : S) : S := rot O m (b - a) (m - a) (b - m) d
/-- The search by halves. -/
def bs (p : Nat → Bool) : Nat → Nat → Nat → Nat
  | 0, i, _ => i
  | f + 1, i, j => if i < j then (if p ((i + j) / 2) then bs p f ((i + j) / 2 + 1) j else bs p f i ((i + j) / 2)) else i
theorem bs_bd (p : Nat → Bool) : ∀ (f i j : Nat), i ≤ j → i ≤ bs p f i j ∧ bs p f i j ≤ j
  | 0, _, _, h => ⟨Nat.le_refl _, h⟩
  | f + 1, i, j, h => by
    rw [bs]
    split
    · split
      · have := bs_bd p f ((i + j) / 2 + 1) j (by omega); omega
      · have := bs_bd p f i ((i + j) / 2) (by omega); omega
    · omega
/-- Exchanges upward, from place a, k of them. -/
def ups (a : Nat) (d : S) : Nat → S
  | 0 => d
  | k + 1 => O.sw (ups a d k) (a + k) (a + k + 1)
/-- Exchanges downward, from place m, k of them. -/
def dns (m : Nat) (d : S) : Nat → S
  | 0 => d
  | k + 1 => O.sw (dns m d k) (m - k) (m - k - 1)

variable (lt : α → α → Bool)
def s0 (a m b : Nat) : Nat := if m > (a + b) / 2 then (a + b) / 2 + m - b else a
def r0 (a m b : Nat) : Nat := if m > (a + b) / 2 then (a + b) / 2 else m
/-- Where the turn begins. -/
def st (a m b : Nat) (d : S) : Nat := bs (fun c => !lt (O.get d ((a + b) / 2 + m - 1 - c)) (O.get d c)) (r0 a m b - s0 a m b) (s0 a m b) (r0 a m b)
def tn (a m b : Nat) (d : S) : S := if st O lt a m b d < m ∧ m < (a + b) / 2 + m - st O lt a m b d then rotate O (st O lt a m b d) m ((a + b) / 2 + m - st O lt a m b d) d else d
/-- The search among what lies behind, and among what lies before. -/
def sHi (a m b : Nat) (d : S) : Nat := bs (fun h => lt (O.get d h) (O.get d a)) (b - m) m b
def sLo (a m b : Nat) (d : S) : Nat := bs (fun h => !lt (O.get d m) (O.get d h)) (m - a) a m
def sym : Nat → Nat → Nat → Nat → S → S
  | 0, _, _, _, d => d
  | f + 1, a, m, b, d =>
    if m - a = 1 then ups O a d (sHi O lt a m b d - 1 - a)
    else if b - m = 1 then dns O m d (m - sLo O lt a m b d)
    else if (a + b) / 2 < (a + b) / 2 + m - st O lt a m b d ∧ (a + b) / 2 + m - st O lt a m b d < b then
      sym f ((a + b) / 2) ((a + b) / 2 + m - st O lt a m b d) b (if a < st O lt a m b d ∧ st O lt a m b d < (a + b) / 2 then sym f a (st O lt a m b d) ((a + b) / 2) (tn O lt a m b d) else tn O lt a m b d)
    else (if a < st O lt a m b d ∧ st O lt a m b d < (a + b) / 2 then sym f a (st O lt a m b d) ((a + b) / 2) (tn O lt a m b d) else tn O lt a m b d)
def insI (a : Nat) : Nat → S → S
  | 0, d => d
  | j + 1, d => if j + 1 > a && lt (O.get d (j + 1)) (O.get d j) then insI a j (O.sw d (j + 1) j) else d
def insO (a b : Nat) : Nat → Nat → S → S
  | 0, _, d => d
  | f + 1, i, d => if i < b then insO a b f (i + 1) (insI O lt a i d) else d
def ins (d : S) (a b : Nat) : S := insO O lt a b (b - a) (a + 1) d
/-- Blocks of 20, each sorted: from place a. -/
def blocks (n : Nat) : Nat → Nat → S → S
  | 0, _, d => d
  | f + 1, a, d => if a + 20 ≤ n then blocks n f (a + 20) (ins O lt d a (a + 20)) else ins O lt d a n
/-- One pass of merges. -/
def pass (n bz : Nat) : Nat → Nat → S → S
  | 0, _, d => d
  | f + 1, a, d => if a + 2 * bz ≤ n then pass n bz f (a + 2 * bz) (sym O lt (2 * bz) a (a + bz) (a + 2 * bz) d) else if a + bz < n then sym O lt (n - a) a (a + bz) n d else d
def passes (n : Nat) : Nat → Nat → S → S
  | 0, _, d => d
  | f + 1, bz, d => if bz < n then passes n f (2 * bz) (pass O lt n bz (n + 1) 0 d) else d
def stable (n : Nat) (d : S) : S := passes O lt n (n + 1) 20 (blocks O lt n (n + 1) 0 d)
end

/-- Two kinds of rows that go alike. -/
structure Sim {S T α β : Type} (O : Ops S α) (O' : Ops T β) (lt : α → α → Bool) (lt' : β → β → Bool) (R : S → T → Prop) : Prop where
  less : ∀ {s t}, R s t → ∀ i j, lt (O.get s i) (O.get s j) = lt' (O'.get t i) (O'.get t j)
  sw : ∀ {s t}, R s t → ∀ i j, R (O.sw s i j) (O'.sw t i j)
namespace Sim
variable {S T α β : Type} {O : Ops S α} {O' : Ops T β} {lt : α → α → Bool} {lt' : β → β → Bool} {R : S → T → Prop} (H : Sim O O' lt lt' R)
include H
theorem swr {s t} (h : R s t) (a b : Nat) : ∀ k, R (Stab.swr O a b s k) (Stab.swr O' a b t k)
  | 0 => h
  | k + 1 => H.sw (swr h a b k) _ _
theorem ups {s t} (h : R s t) (a : Nat) : ∀ k, R (Stab.ups O a s k) (Stab.ups O' a t k)
  | 0 => h
  | k + 1 => H.sw (ups h a k) _ _
theorem dns {s t} (h : R s t) (a : Nat) : ∀ k, R (Stab.dns O a s k) (Stab.dns O' a t k)
  | 0 => h
  | k + 1 => H.sw (dns h a k) _ _
theorem rot (m : Nat) : ∀ (f i j : Nat) {s t}, R s t → R (Stab.rot O m f i j s) (Stab.rot O' m f i j t)
  | 0, _, _, _, _, h => h
  | f + 1, i, j, s, t, h => by
    rw [Stab.rot, Stab.rot]
    split
    · exact H.swr h _ _ _
    · split
      · exact rot m f _ _ (H.swr h _ _ _)
      · exact rot m f _ _ (H.swr h _ _ _)
theorem st {s t} (h : R s t) (a m b : Nat) : Stab.st O lt a m b s = Stab.st O' lt' a m b t := by
  unfold Stab.st; congr 1; funext c; rw [H.less h]
theorem tn {s t} (h : R s t) (a m b : Nat) : R (Stab.tn O lt a m b s) (Stab.tn O' lt' a m b t) := by
  unfold Stab.tn; rw [H.st h]; split
  · exact H.rot _ _ _ _ h
  · exact h
theorem sHi {s t} (h : R s t) (a m b : Nat) : Stab.sHi O lt a m b s = Stab.sHi O' lt' a m b t := by
  unfold Stab.sHi; congr 1; funext c; rw [H.less h]
theorem sLo {s t} (h : R s t) (a m b : Nat) : Stab.sLo O lt a m b s = Stab.sLo O' lt' a m b t := by
  unfold Stab.sLo; congr 1; funext c; rw [H.less h]
theorem sym : ∀ (f a m b : Nat) {s t}, R s t → R (Stab.sym O lt f a m b s) (Stab.sym O' lt' f a m b t)
  | 0, _, _, _, _, _, h => h
  | f + 1, a, m, b, s, t, h => by
    rw [Stab.sym, Stab.sym, H.sHi h, H.sLo h, H.st h]
    have h2 : R (if a < Stab.st O' lt' a m b t ∧ Stab.st O' lt' a m b t < (a + b) / 2 then Stab.sym O lt f a (Stab.st O' lt' a m b t) ((a + b) / 2) (Stab.tn O lt a m b s) else Stab.tn O lt a m b s)
        (if a < Stab.st O' lt' a m b t ∧ Stab.st O' lt' a m b t < (a + b) / 2 then Stab.sym O' lt' f a (Stab.st O' lt' a m b t) ((a + b) / 2) (Stab.tn O' lt' a m b t) else Stab.tn O' lt' a m b t) := by
      split
      · exact sym f _ _ _ (H.tn h _ _ _)
      · exact H.tn h _ _ _
    split
    · exact H.ups h _ _
    · split
      · exact H.dns h _ _
      · split
        · exact sym f _ _ _ h2
        · exact h2
theorem insI (a : Nat) : ∀ (j : Nat) {s t}, R s t → R (Stab.insI O lt a j s) (Stab.insI O' lt' a j t)
  | 0, _, _, h => h
  | j + 1, s, t, h => by
    rw [Stab.insI, Stab.insI, H.less h]
    split
    · exact insI a j (H.sw h _ _)
    · exact h
theorem insO (a b : Nat) : ∀ (f i : Nat) {s t}, R s t → R (Stab.insO O lt a b f i s) (Stab.insO O' lt' a b f i t)
  | 0, _, _, _, h => h
  | f + 1, i, s, t, h => by
    rw [Stab.insO, Stab.insO]
    split
    · exact insO a b f _ (H.insI a i h)
    · exact h
theorem blocks (n : Nat) : ∀ (f a : Nat) {s t}, R s t → R (Stab.blocks O lt n f a s) (Stab.blocks O' lt' n f a t)
  | 0, _, _, _, h => h
  | f + 1, a, s, t, h => by
    rw [Stab.blocks, Stab.blocks]
    split
    · exact blocks n f _ (H.insO _ _ _ _ h)
    · exact H.insO _ _ _ _ h
theorem pass (n bz : Nat) : ∀ (f a : Nat) {s t}, R s t → R (Stab.pass O lt n bz f a s) (Stab.pass O' lt' n bz f a t)
  | 0, _, _, _, h => h
  | f + 1, a, s, t, h => by
    rw [Stab.pass, Stab.pass]
    split
    · exact pass n bz f _ (H.sym _ _ _ _ h)
    · split
      · exact H.sym _ _ _ _ h
      · exact h
theorem passes (n : Nat) : ∀ (f bz : Nat) {s t}, R s t → R (Stab.passes O lt n f bz s) (Stab.passes O' lt' n f bz t)
  | 0, _, _, _, h => h
  | f + 1, bz, s, t, h => by
    rw [Stab.passes, Stab.passes]
    split
    · exact passes n f _ (H.pass n bz _ _ h)
    · exact h
theorem stable (n : Nat) {s t} (h : R s t) : R (Stab.stable O lt n s) (Stab.stable O' lt' n t) := H.passes n _ _ (H.blocks n _ _ h)
end Sim

def arrO (α : Type) [Inhabited α] : Ops (Array α) α := ⟨fun d i => d[i]!, swp⟩
section
variable {α : Type} [Inhabited α] (lt : α → α → Bool)
theorem swr_size (a b : Nat) (d : Array α) : ∀ k, (swr (arrO α) a b d k).size = d.size
  | 0 => rfl
  | k + 1 => by rw [swr]; show (swp _ _ _).size = _; rw [size_swp, swr_size a b d k]
theorem rot_size (m : Nat) : ∀ (f i j : Nat) (d : Array α), (rot (arrO α) m f i j d).size = d.size
  | 0, _, _, _ => rfl
  | f + 1, i, j, d => by
    rw [rot]; split
    · exact swr_size _ _ _ _
    · split
      · rw [rot_size, swr_size]
      · rw [rot_size, swr_size]
theorem ups_size (a : Nat) (d : Array α) : ∀ k, (ups (arrO α) a d k).size = d.size
  | 0 => rfl
  | k + 1 => by rw [ups]; show (swp _ _ _).size = _; rw [size_swp, ups_size a d k]
theorem dns_size (a : Nat) (d : Array α) : ∀ k, (dns (arrO α) a d k).size = d.size
  | 0 => rfl
  | k + 1 => by rw [dns]; show (swp _ _ _).size = _; rw [size_swp, dns_size a d k]
theorem tn_size (a m b : Nat) (d : Array α) : (tn (arrO α) lt a m b d).size = d.size := by
  unfold tn rotate; split
  · exact rot_size _ _ _ _ _
  · rfl
theorem sym_size : ∀ (f a m b : Nat) (d : Array α), (sym (arrO α) lt f a m b d).size = d.size
  | 0, _, _, _, _ => rfl
  | f + 1, a, m, b, d => by
    have h2 : (if a < st (arrO α) lt a m b d ∧ st (arrO α) lt a m b d < (a + b) / 2 then sym (arrO α) lt f a (st (arrO α) lt a m b d) ((a + b) / 2) (tn (arrO α) lt a m b d) else tn (arrO α) lt a m b d).size = d.size := by
      split
      · rw [sym_size, tn_size]
      · exact tn_size _ _ _ _ _
    rw [sym]
    split
    · exact ups_size _ _ _
    · split
      · exact dns_size _ _ _
      · split
        · rw [sym_size]; exact h2
        · exact h2
end

def coded : List (Fin 256) → Nat
  | [] => 0
  | x :: l => x.val + 256 * coded l
def natO (n : Nat) : Ops Nat Nat := ⟨fun t i => t / 256 ^ i % 256, fun t i j =>
  let x := t / 256 ^ i % 256
  let y := t / 256 ^ j % 256
  let t1 := if i < n then t - x * 256 ^ i + y * 256 ^ i else t
  if j < n then t1 - (t1 / 256 ^ j % 256) * 256 ^ j + x * 256 ^ j else t1⟩
theorem coded_get : ∀ (l : List (Fin 256)) (i : Nat), coded l / 256 ^ i % 256 = (l[i]?.getD default).val
  | [], i => by simp [coded]; rfl
  | x :: l, 0 => by simp only [coded, Nat.pow_zero, Nat.div_one, List.getElem?_cons_zero, Option.getD_some]; omega
  | x :: l, i + 1 => by
    have : coded (x :: l) / 256 ^ (i + 1) = coded l / 256 ^ i := by
      rw [coded, Nat.pow_succ, Nat.mul_comm (256 ^ i), ← Nat.div_div_eq_div_mul]
      congr 1
      omega
    rw [this, coded_get l i]; simp
theorem coded_le : ∀ (l : List (Fin 256)) (i : Nat) (h : i < l.length), l[i].val * 256 ^ i ≤ coded l
  | x :: l, 0, _ => by simp [coded]
  | x :: l, i + 1, h => by
    have hi : i < l.length := by simpa using h
    have := coded_le l i hi
    simp only [coded, List.getElem_cons_succ, Nat.pow_succ]
    have e : l[i].val * (256 ^ i * 256) = l[i].val * 256 ^ i * 256 := by rw [Nat.mul_assoc]
    rw [e]; omega
theorem coded_set : ∀ (l : List (Fin 256)) (i : Nat) (h : i < l.length) (v : Fin 256), coded (l.set i v) + l[i].val * 256 ^ i = coded l + v.val * 256 ^ i
  | x :: l, 0, _, v => by simp [coded]; omega
  | x :: l, i + 1, h, v => by
    have hi : i < l.length := by simpa using h
    have := coded_set l i hi v
    simp only [List.set_cons_succ, coded, List.getElem_cons_succ, Nat.pow_succ]
    have e : ∀ q : Nat, q * (256 ^ i * 256) = q * 256 ^ i * 256 := fun q => by rw [Nat.mul_assoc]
    rw [e, e]; omega
theorem coded_put (l : List (Fin 256)) (i : Nat) (v : Fin 256) : coded (l.set i v) = if i < l.length then coded l - (coded l / 256 ^ i % 256) * 256 ^ i + v.val * 256 ^ i else coded l := by
  split
  · rename_i h
    have h1 := coded_set l i h v
    have h2 := coded_le l i h
    rw [coded_get, List.getElem?_eq_getElem h, Option.getD_some]
    omega
  · rename_i h
    rw [List.set_eq_of_length_le (by omega)]
theorem get_coded (d : Array (Fin 256)) (i : Nat) : coded d.toList / 256 ^ i % 256 = (d[i]!).val := by
  rw [coded_get]
  congr 1
  rw [Array.getElem!_eq_getD, Array.getD_eq_getD_getElem?, Array.getElem?_toList]
theorem sim_nat (n : Nat) (lt : Fin 256 → Fin 256 → Bool) (lt' : Nat → Nat → Bool) (hl : ∀ x y : Fin 256, lt x y = lt' x.val y.val) :
    Sim (arrO (Fin 256)) (natO n) lt lt' (fun d t => d.size = n ∧ coded d.toList = t) where
  less := by
    rintro s t ⟨h, rfl⟩ i j
    show lt s[i]! s[j]! = lt' (coded s.toList / 256 ^ i % 256) (coded s.toList / 256 ^ j % 256)
    rw [hl, get_coded, get_coded]
  sw := by
    rintro s t ⟨rfl, rfl⟩ i j
    refine ⟨size_swp _ _ _, ?_⟩
    show coded (swp s i j).toList = _
    unfold swp
    rw [Array.toList_setIfInBounds, Array.toList_setIfInBounds, coded_put, List.length_set, coded_put]
    simp only [natO, get_coded, Array.length_toList]
def pop (n : Nat) : Nat := n % 2 + n / 2 % 2 + n / 4 % 2 + n / 8 % 2 + n / 16 % 2 + n / 32 % 2 + n / 64 % 2 + n / 128 % 2
def ltp (x y : Nat) : Bool := Nat.blt (pop x) (pop y)
/-- The sets of k things, by how many there are in them. -/
def bySize (k : Nat) : List Nat := (List.range (k + 1)).flatMap fun s => (List.range (2 ^ k)).filter fun x => pop x == s
end Go.Proofs.Ytjbjmoghloabpaa.Stab
