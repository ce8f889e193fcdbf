/- Parts of a proof: BnAH. -/
import Derived.Test.YtjbjmoghloabpaaM25
/- Package bean: Quiet, where all goes well. -/
set_option linter.unusedVariables false
set_option linter.unusedSimpArgs false
namespace Go.Proofs.Ytjbjmoghloabpaa
open Go.RowKit Go.Proofs
attribute [local irreducible] Ord.walk
/-- Which numbers can be told without anybody's being found out, of those below a number. -/
def quietTo (c : Nat → Nat) (V : Nat) (lo hi : Int) (ks : List Kn) : Nat → Nat
  | 0 => 0
  | n + 1 => if 0 < c n ∧ sureTo (atN n) V lo hi ks V = sureTo csum V lo hi ks V then quietTo c V lo hi ks n + 2 ^ n else quietTo c V lo hi ks n
theorem quietTo_lt (c : Nat → Nat) (V : Nat) (lo hi : Int) (ks : List Kn) (n : Nat) : quietTo c V lo hi ks n < 2 ^ n := by
  induction n with
  | zero => simp [quietTo]
  | succ n ih => rw [Nat.pow_succ, quietTo]; split <;> omega
theorem i64_or_pow9 : ∀ a < 512, ∀ i < 9, a < 2 ^ i → bits .or .i64 ((a : Nat) : Int) ((2 ^ i : Nat) : Int) = ((a + 2 ^ i : Nat) : Int) := by decide +kernel
theorem noPanic_ret' {Q : Exit → Act → World → Prop} {a : Act} {w : World} (h : Q .ret a w) : noPanic Q .ret a w := h

set_option maxHeartbeats 4000000 in
set_option maxRecDepth 100000 in
theorem b_Quiet_ok (b : Bn) (ga : Option Addr) (gc : Nat) (pa : Option Addr) (pc : Nat) (w : World) (hg : GsAt w ga b.gs) (hp : PsAt w pa b.ps) (hv : valid b = true) (hs : 0 < csum (countN b.V.toNat b.lo b.hi (knOf b))) (V : Nat) (hVe : b.V = V) :
    Calls Try.prog 28 #[bv b ga gc pa pc] w (Gives2 (.int .i64 (quietTo (countN b.V.toNat b.lo b.hi (knOf b)) b.V.toNat b.lo b.hi (knOf b) (V + 1) : Nat)) (.int .i64 0) w) := by
  have hmf : ∀ (fn : Fn) (first cap : Array Value) (w : World), (Instr.makeFunc fn first cap).run Try.prog w = .ok (.func fn first cap) w := fun _ _ _ _ => rfl
  have HO := Lib.hid (fun w' (hb : Below w.heap.size w w') => b_open_ok b ga gc pa pc 46 #[] w' (hg.below hb) (hp.below hb) hv (fun args W => Try.call46 args W) (fun w2 v _ _ => b_always _ _))
  have HC := Lib.hid catch_Quiet
  have HS := Lib.hid hs
  have HT := Lib.hid (fun w1 v ka kc (hvt : Vt w1 v b b.V.toNat (knOf b) ga gc pa pc ka kc) => b_told_yes hvt HS.out)
  have hle := countN_sum b.V.toNat (by have := valid_V hv; omega) b.lo b.hi (knOf b)
  have q1 := cv_size (countN b.V.toNat b.lo b.hi (knOf b))
  have q2 := cv_ones (countN b.V.toNat b.lo b.hi (knOf b))
  have hcv : Hid (cv (countN b.V.toNat b.lo b.hi (knOf b)) = .agg (ocells (countN b.V.toNat b.lo b.hi (knOf b)))) := rfl
  have HU := Lib.hid (fun w1 v ka kc (hvt : Vt w1 v b b.V.toNat (knOf b) ga gc pa pc ka kc) => b_sure_all hvt)
  have HQ : Hid (∀ w1 v ka kc, Vt w1 v b ((V : Int)).toNat (knOf b) ga gc pa pc ka kc → ∀ (pb n : Nat), n < 9 → w1.cell? ⟨pb, 0, none⟩ = some (.int .i64 n) →
      Calls Try.prog 63 #[.pointer (some ⟨v, 0, none⟩), .func (.func 81) #[] #[.pointer (some ⟨pb, 0, none⟩)]] w1 (Gives (.agg #[.int .i64 (sureTo (atN n) ((V : Int)).toNat b.lo b.hi (knOf b) ((V : Int)).toNat).1, .int .i64 (sureTo (atN n) ((V : Int)).toNat b.lo b.hi (knOf b) ((V : Int)).toNat).2]) w1)) := by
    rw [← hVe]; intro w1 v ka kc hvt pb n hn hp; exact b_sure_quiet hvt pb n hn hp
  have HM : Hid (∀ k : Nat, k ≤ 8 → ∀ W, Calls Try.prog 48 #[cv (countN b.V.toNat b.lo b.hi (knOf b)), .int .i64 (k : Int)] W (Gives (.bool (decide (0 < countN b.V.toNat b.lo b.hi (knOf b) k))) W)) := fun k hk W => b_some (countN b.V.toNat b.lo b.hi (knOf b)) (k : Int) k rfl (by omega) W
  have hV := valid_V hv
  have hV8 : V ≤ 8 := by omega
  have HL := Lib.hid (quietTo_lt (countN b.V.toNat b.lo b.hi (knOf b)) b.V.toNat b.lo b.hi (knOf b))
  have HSt : Hid (∀ n, quietTo (countN b.V.toNat b.lo b.hi (knOf b)) b.V.toNat b.lo b.hi (knOf b) (n + 1) = if 0 < countN b.V.toNat b.lo b.hi (knOf b) n ∧ sureTo (atN n) ((V : Int)).toNat b.lo b.hi (knOf b) ((V : Int)).toNat = sureTo csum b.V.toNat b.lo b.hi (knOf b) b.V.toNat then quietTo (countN b.V.toNat b.lo b.hi (knOf b)) b.V.toNat b.lo b.hi (knOf b) n + 2 ^ n else quietTo (countN b.V.toNat b.lo b.hi (knOf b)) b.V.toNat b.lo b.hi (knOf b) n) := by rw [← hVe]; exact fun n => rfl
  have H0 : Hid (quietTo (countN b.V.toNat b.lo b.hi (knOf b)) b.V.toNat b.lo b.hi (knOf b) 0 = 0) := rfl
  clear hs hle hV
  have HVE := Lib.hid hVe
  clear hVe
  generalize quietTo (countN b.V.toNat b.lo b.hi (knOf b)) b.V.toNat b.lo b.hi (knOf b) = QT at *
  generalize sureTo csum b.V.toNat b.lo b.hi (knOf b) b.V.toNat = SU at *
  obtain ⟨SQ, hSQ⟩ : ∃ SQ : Nat → Nat × Nat, ∀ n, sureTo (atN n) ((V : Int)).toNat b.lo b.hi (knOf b) ((V : Int)).toNat = SQ n := ⟨_, fun n => rfl⟩
  simp only [hSQ] at HQ HSt
  clear hSQ
  generalize countN b.V.toNat b.lo b.hi (knOf b) = c at *
  have hcv2 := hcv
  generalize hCV : cv c = CV at *
  have HCV := Lib.hid hCV
  clear hCV
  generalize ocells c = OC at *
  obtain rfl := hcv.out
  clear hcv hcv2
  unfold bv at *
  go_enter_defers Try.func28, Try.ntmps28
  refine wp_noPanic ?_
  go_wp2_with fail
  with_reducible refine (HO.out _ (by (repeat (first | assumption | exact Below.refl _ _ | refine Below.drew ?_ | refine Below.alloc ?_ (by first | omega | (simp; done) | (simp; omega)) _ | refine Below.setCell ?_ (by first | omega | (simp; done) | (simp; omega)) _ | refine Below.trans ?_ (Below.mono (by assumption) (by first | omega | (simp; done) | (simp; omega))))))).mono ?_
  rintro e w1 ⟨v, ka, kc, rfl, hvt, hb1, hle⟩
  go_wp2_with fail
  with_reducible refine (HT.out _ _ _ _ hvt).mono ?_
  rintro e w2 ⟨rfl, hb2⟩
  go_wp2_with (first
    | (refine wpList_store_blk 62 (.tmp 5) (.tmp 13) agg_counts rfl rfl rfl rfl (Blk.new _ _ _) rfl q1 q2 ?_; intro w3 h3; refine at_stop ?_))
  unfold Stop
  have z1 := hb1.size
  have z2 := hb2.size
  simp only [World.size_alloc] at z1
  have b1 : Blk w3 w.heap.size #[.int .i64 b.V, .int .i64 b.nd, .int .i64 b.lo, .int .i64 b.hi, .slice ga b.gs.length gc, .slice pa b.ps.length pc] 27 :=
    h3.other ((((((Blk.new w _ _).alloc _).below hb1 (by first | omega | (simp; done) | (simp; omega))).below hb2 (by omega)).alloc _)) (by omega)
  have b3 : Blk w3 (w.heap.size + 1) #[.int .i64 0] 30 :=
    h3.other ((((Blk.new' _ _ _ _ (by simp)).below hb1 (by first | omega | (simp; done) | (simp; omega))).below hb2 (by omega)).alloc _) (by omega)
  have b4 := h3.blk
  have hB13 : Below w1.heap.size w1 w3 := h3.below (hb2.alloc z2 _) z2
  have hvt3 := hvt.below hB13
  have hB3 : Below w.heap.size w w3 := h3.below ((((((Below.refl _ _).alloc (Nat.le_refl _) _).alloc (by first | omega | (simp; done) | (simp; omega)) _).trans (hb1.mono (by first | omega | (simp; done) | (simp; omega)))).trans (hb2.mono (by omega))).alloc (by omega) _) (by omega)
  have z3 := hB3.size
  have l4 := b4.lt
  clear hb1 hb2 h3 hvt hB13
  go_wp2_with fail
  with_reducible refine (HU.out _ _ _ _ hvt3).mono ?_
  rintro e w4 ⟨rfl, hb4⟩
  go_wp2_with (first
    | (refine wpList_store_blk 80 (.tmp 6) (.tmp 15) agg_sets rfl rfl rfl rfl (Blk.new _ _ _) rfl rfl (by simp [Value.oneCell']) ?_; intro w5 h5; refine at_stop ?_))
  unfold Stop
  have z4 := hb4.size
  have c1 := h5.other ((b1.below hb4 b1.lt).alloc _) (by have := b1.lt; omega)
  have c3 := h5.other ((b3.below hb4 b3.lt).alloc _) (by have := b3.lt; omega)
  have c4 := h5.other ((b4.below hb4 b4.lt).alloc _) (by have := b4.lt; omega)
  have c6 := h5.blk
  have hB35 : Below w3.heap.size w3 w5 := h5.below (hb4.alloc z4 _) z4
  have hvt5 := hvt3.below hB35
  have hB5 : Below w.heap.size w w5 := hB3.trans (hB35.mono z3)
  have z5 := hB5.size
  clear b1 b3 b4 hvt3 hB35 hb4 h5 hB3
  rw [HVE.out] at *
  have r1 := c1.cell 0
  have c1l := c1.lt
  have c3l := c3.lt
  have c4l := c4.lt
  have c6l := c6.lt
  go_wp2_with fail
  go_loopw [7, 19] (fun a i wr => ∃ k : Nat, k ≤ V + 1 ∧ i = .int .i64 k ∧ a = .int .i64 (QT k : Nat) ∧ Below w5.heap.size w5 wr) (fun _ i _ => V + 1 - (intOf i).toNat)
  case atStart => exact ⟨0, by omega, rfl, by rw [H0.out]; rfl, Below.refl _ _⟩
  case round =>
    obtain ⟨k, hk, rfl, rfl, hbw⟩ := hrel
    by_cases hlt : k < V + 1
    · have hlti : (k : Int) < (V : Int) + 1 := by omega
      have hMk := HM.out k (by omega)
      have HStk := Lib.hid (HSt.out k)
      have hvtr := hvt5.below hbw
      have d4 := c4.below hbw c4l
      have d6 := c6.below hbw c6l
      have zr := hbw.size
      by_cases hc : 0 < c k
      · rw [decide_eq_true hc] at hMk
        have HMK := Lib.hid hMk
        clear hMk
        have HQk := Lib.hid (fun w1 (h : Vt w1 v b ((V : Int)).toNat (knOf b) ga gc pa pc ka kc) pb hp => HQ.out w1 v ka kc h pb k (by omega) hp)
        generalize SQ k = sq at HStk HQk
        obtain ⟨sw, sb⟩ := sq
        obtain ⟨tw, tb⟩ := SU
        simp only at HStk HQk d6
        go_wp2_with fail
        have e4 := d4.alloc (.cells #[.int .i64 k] 3)
        have e6 := d6.alloc (.cells #[.int .i64 k] 3)
        have bn := Blk.new wr #[.int .i64 k] 3
        have rn := bn.cell 0
        have l4 := d4.lt
        have l6 := d6.lt
        refine Ord.wp_region [(0, 0), (1, 0), (2, 2), (3, 0), (4, 0), (5, 0), (7, 1), (6, 2), (8, 0), (9, 0)] (fun W => Below (wr.heap.size + 1) (wr.alloc (.cells #[.int .i64 k] 3)) W) (by kernel_rfl) (by kernel_rfl) (fun c a d v w h => by cases d <;> exact h) (Below.refl _ _).drew ?_
        go_wp2_with (first
          | (refine wpList_load_blk 62 (.tmp 5) agg_counts rfl rfl rfl e4 q1 ?_)
          | (go_at_call 48; refine (HMK.out _).mono ?_; rintro e w7 ⟨rfl, hb7⟩; refine at_stop ?_)
          | ((with_reducible refine Ord.at_calm ?_); refine Ord.calm_skip rfl ?_ (fun K hK => ?_); (focus (simp [Region.wanted, yielded]; done))) | with_reducible refine Ord.walk_calm rfl rfl (fun K hK => ?_) | ((with_reducible refine Ord.at_wild ?_); refine Ord.wild_fieldAddr rfl rfl (fun W => by simp [go_sem]; rfl) (fun K hK => ?_)) | ((with_reducible refine Ord.at_wild ?_); refine Ord.wild_move rfl rfl (fun K hK => ?_)) | ((with_reducible refine Ord.at_wild ?_); refine Ord.wild_nilCheck rfl rfl (fun K hK => ?_)) | with_reducible refine Ord.walk_eff rfl (by first | (simp; done) | assumption | (go_simp; done) | (repeat (first | assumption | exact Below.refl _ _ | refine Below.drew ?_ | refine Below.alloc ?_ (by first | omega | (simp; done) | (simp; omega)) _ | refine Below.setCell ?_ (by first | omega | (simp; done) | (simp; omega)) _ | refine Below.trans ?_ (Below.mono (by assumption) (by first | omega | (simp; done) | (simp; omega)))))) (fun K hK => ?_) | with_reducible refine Ord.at_fork ?_ ?_ | with_reducible refine Ord.walk_nil ?_ | (with_reducible refine Ord.next_of (by first | (simp; done) | (go_simp; done) | (repeat (first | assumption | exact Below.refl _ _ | refine Below.drew ?_ | refine Below.alloc ?_ (by first | omega | (simp; done) | (simp; omega)) _ | refine Below.setCell ?_ (by first | omega | (simp; done) | (simp; omega)) _ | refine Below.trans ?_ (Below.mono (by assumption) (by first | omega | (simp; done) | (simp; omega)))))) (fun _ => ?_)))
        unfold Stop
        have hA7 : Below (wr.heap.size + 1) (wr.alloc (.cells #[.int .i64 k] 3)) w7 := (Below.refl _ _).drew.trans (hb7.mono (by simp))
        have hB7 : Below wr.heap.size wr w7 := ((Below.refl _ _).alloc (Nat.le_refl _) _).trans (hA7.mono (by omega))
        have hvt7 := hvtr.below hB7
        have n7 := (bn.below hA7 (by omega)).cell 0
        clear hb7
        go_wp2_with (first
          | ((with_reducible refine Ord.at_wild ?_); refine Ord.wild_load (ad := ⟨w4.heap.size, 0, none⟩) (.agg #[.int .i64 tw, .int .i64 tb]) rfl rfl ?_ ?_; (focus (intro W hW; exact loadVar_blk agg_sets (e6.below hW (by omega)) rfl)); intro K hK)
          | (go_at_call 63; refine (HQk.out _ hvt7 _ n7).mono ?_; rintro e w8 ⟨rfl, hb8⟩; refine at_stop ?_)
          | ((with_reducible refine Ord.at_calm ?_); refine Ord.calm_skip rfl ?_ (fun K hK => ?_); (focus (simp [Region.wanted, yielded]; done))) | with_reducible refine Ord.walk_calm rfl rfl (fun K hK => ?_) | ((with_reducible refine Ord.at_wild ?_); refine Ord.wild_fieldAddr rfl rfl (fun W => by simp [go_sem]; rfl) (fun K hK => ?_)) | ((with_reducible refine Ord.at_wild ?_); refine Ord.wild_move rfl rfl (fun K hK => ?_)) | ((with_reducible refine Ord.at_wild ?_); refine Ord.wild_nilCheck rfl rfl (fun K hK => ?_)) | with_reducible refine Ord.walk_eff rfl (by first | (simp; done) | assumption | (go_simp; done) | (repeat (first | assumption | exact Below.refl _ _ | refine Below.drew ?_ | refine Below.alloc ?_ (by first | omega | (simp; done) | (simp; omega)) _ | refine Below.setCell ?_ (by first | omega | (simp; done) | (simp; omega)) _ | refine Below.trans ?_ (Below.mono (by assumption) (by first | omega | (simp; done) | (simp; omega)))))) (fun K hK => ?_) | with_reducible refine Ord.at_fork ?_ ?_ | with_reducible refine Ord.walk_nil ?_ | (with_reducible refine Ord.next_of (by first | (simp; done) | (go_simp; done) | (repeat (first | assumption | exact Below.refl _ _ | refine Below.drew ?_ | refine Below.alloc ?_ (by first | omega | (simp; done) | (simp; omega)) _ | refine Below.setCell ?_ (by first | omega | (simp; done) | (simp; omega)) _ | refine Below.trans ?_ (Below.mono (by assumption) (by first | omega | (simp; done) | (simp; omega)))))) (fun _ => ?_)))
        unfold Stop
        have hA8 : Below (wr.heap.size + 1) (wr.alloc (.cells #[.int .i64 k] 3)) w8 := hA7.trans (hb8.mono (by have := hA7.size; simpa using this))
        have n8 := (bn.below hA8 (by omega)).cell 0
        go_wp2_with (first
          | ((with_reducible refine Ord.at_calm ?_); refine Ord.calm_skip rfl ?_ (fun K hK => ?_); (focus (simp [Region.wanted, yielded]; done))) | with_reducible refine Ord.walk_calm rfl rfl (fun K hK => ?_) | ((with_reducible refine Ord.at_wild ?_); refine Ord.wild_fieldAddr rfl rfl (fun W => by simp [go_sem]; rfl) (fun K hK => ?_)) | ((with_reducible refine Ord.at_wild ?_); refine Ord.wild_move rfl rfl (fun K hK => ?_)) | ((with_reducible refine Ord.at_wild ?_); refine Ord.wild_nilCheck rfl rfl (fun K hK => ?_)) | with_reducible refine Ord.walk_eff rfl (by first | (simp; done) | assumption | (go_simp; done) | (repeat (first | assumption | exact Below.refl _ _ | refine Below.drew ?_ | refine Below.alloc ?_ (by first | omega | (simp; done) | (simp; omega)) _ | refine Below.setCell ?_ (by first | omega | (simp; done) | (simp; omega)) _ | refine Below.trans ?_ (Below.mono (by assumption) (by first | omega | (simp; done) | (simp; omega)))))) (fun K hK => ?_) | with_reducible refine Ord.at_fork ?_ ?_ | with_reducible refine Ord.walk_nil ?_ | (with_reducible refine Ord.next_of (by first | (simp; done) | (go_simp; done) | (repeat (first | assumption | exact Below.refl _ _ | refine Below.drew ?_ | refine Below.alloc ?_ (by first | omega | (simp; done) | (simp; omega)) _ | refine Below.setCell ?_ (by first | omega | (simp; done) | (simp; omega)) _ | refine Below.trans ?_ (Below.mono (by assumption) (by first | omega | (simp; done) | (simp; omega)))))) (fun _ => ?_)))
        all_goals
          have hp2 : QT k < 2 ^ k := HL.out k
          have hp8 := Nat.pow_le_pow_right (show 0 < 2 by omega) (show k ≤ 8 by omega)
          have hor := i64_or_pow9 (QT k) (by have e : (2 : Nat) ^ 8 = 256 := rfl; omega) k (by omega) hp2
          have hwp := wrap_pow k (by omega)
          refine ⟨⟨k + 1, by omega, by go_num, ?_, hbw.trans ((((Below.refl _ _).alloc (Nat.le_refl _) _).trans (hA8.mono (by omega))).mono zr)⟩, by simp [intOf]; omega⟩
          first
            | (rw [HStk.out, if_pos ⟨hc, by simp only [Prod.mk.injEq]; constructor <;> omega⟩, hwp, hor]; done)
            | (rw [HStk.out, if_neg (by rintro ⟨_, h⟩; simp only [Prod.mk.injEq] at h; omega)]; done)
      · rw [decide_eq_false hc] at hMk
        have HMK := Lib.hid hMk
        clear hMk
        go_wp2_with fail
        have e4 := d4.alloc (.cells #[.int .i64 k] 3)
        have bn := Blk.new wr #[.int .i64 k] 3
        have rn := bn.cell 0
        refine Ord.wp_region [(0, 0), (1, 0), (2, 2), (3, 0), (4, 0), (5, 0), (7, 0), (6, 0), (8, 0), (9, 0)] (fun W => True) (by kernel_rfl) (by kernel_rfl) (fun c a d v w h => by cases d <;> exact h) trivial ?_
        go_wp2_with (first
          | (refine wpList_load_blk 62 (.tmp 5) agg_counts rfl rfl rfl e4 q1 ?_)
          | (go_at_call 48; refine (HMK.out _).mono ?_; rintro e w7 ⟨rfl, hb7⟩; refine at_stop ?_)
          | ((with_reducible refine Ord.at_calm ?_); refine Ord.calm_skip rfl ?_ (fun K hK => ?_); (focus (simp [Region.wanted, yielded]; done))) | with_reducible refine Ord.walk_calm rfl rfl (fun K hK => ?_) | ((with_reducible refine Ord.at_wild ?_); refine Ord.wild_fieldAddr rfl rfl (fun W => by simp [go_sem]; rfl) (fun K hK => ?_)) | ((with_reducible refine Ord.at_wild ?_); refine Ord.wild_move rfl rfl (fun K hK => ?_)) | ((with_reducible refine Ord.at_wild ?_); refine Ord.wild_nilCheck rfl rfl (fun K hK => ?_)) | with_reducible refine Ord.walk_eff rfl (by first | (simp; done) | assumption | (go_simp; done) | (repeat (first | assumption | exact Below.refl _ _ | refine Below.drew ?_ | refine Below.alloc ?_ (by first | omega | (simp; done) | (simp; omega)) _ | refine Below.setCell ?_ (by first | omega | (simp; done) | (simp; omega)) _ | refine Below.trans ?_ (Below.mono (by assumption) (by first | omega | (simp; done) | (simp; omega)))))) (fun K hK => ?_) | with_reducible refine Ord.at_fork ?_ ?_ | with_reducible refine Ord.walk_nil ?_ | (with_reducible refine Ord.next_of (by first | (simp; done) | (go_simp; done) | (repeat (first | assumption | exact Below.refl _ _ | refine Below.drew ?_ | refine Below.alloc ?_ (by first | omega | (simp; done) | (simp; omega)) _ | refine Below.setCell ?_ (by first | omega | (simp; done) | (simp; omega)) _ | refine Below.trans ?_ (Below.mono (by assumption) (by first | omega | (simp; done) | (simp; omega)))))) (fun _ => ?_)))
        unfold Stop
        have hA7 : Below (wr.heap.size + 1) (wr.alloc (.cells #[.int .i64 k] 3)) w7 := (Below.refl _ _).drew.trans (hb7.mono (by simp))
        clear hb7
        go_wp2_with (first
          | ((with_reducible refine Ord.at_calm ?_); refine Ord.calm_skip rfl ?_ (fun K hK => ?_); (focus (simp [Region.wanted, yielded]; done))) | with_reducible refine Ord.walk_calm rfl rfl (fun K hK => ?_) | ((with_reducible refine Ord.at_wild ?_); refine Ord.wild_fieldAddr rfl rfl (fun W => by simp [go_sem]; rfl) (fun K hK => ?_)) | ((with_reducible refine Ord.at_wild ?_); refine Ord.wild_move rfl rfl (fun K hK => ?_)) | ((with_reducible refine Ord.at_wild ?_); refine Ord.wild_nilCheck rfl rfl (fun K hK => ?_)) | with_reducible refine Ord.walk_eff rfl (by first | (simp; done) | assumption | (go_simp; done) | (repeat (first | assumption | exact Below.refl _ _ | refine Below.drew ?_ | refine Below.alloc ?_ (by first | omega | (simp; done) | (simp; omega)) _ | refine Below.setCell ?_ (by first | omega | (simp; done) | (simp; omega)) _ | refine Below.trans ?_ (Below.mono (by assumption) (by first | omega | (simp; done) | (simp; omega)))))) (fun K hK => ?_) | with_reducible refine Ord.at_fork ?_ ?_ | with_reducible refine Ord.walk_nil ?_ | (with_reducible refine Ord.next_of (by first | (simp; done) | (go_simp; done) | (repeat (first | assumption | exact Below.refl _ _ | refine Below.drew ?_ | refine Below.alloc ?_ (by first | omega | (simp; done) | (simp; omega)) _ | refine Below.setCell ?_ (by first | omega | (simp; done) | (simp; omega)) _ | refine Below.trans ?_ (Below.mono (by assumption) (by first | omega | (simp; done) | (simp; omega)))))) (fun _ => ?_)))
        refine ⟨⟨k + 1, by omega, by go_num, ?_, hbw.trans ((((Below.refl _ _).alloc (Nat.le_refl _) _).trans (hA7.mono (by omega))).mono zr)⟩, by simp [intOf]; omega⟩
        rw [HStk.out, if_neg (fun h => hc h.1)]
    · have hlti : ¬ (k : Int) < (V : Int) + 1 := by omega
      obtain rfl : k = V + 1 := by omega
      have d3 := c3.below hbw c3l
      have r3 := d3.cell
      have f3 := d3.free
      go_wp2_with fail
      have hB6 : Below w.heap.size w wr := hB5.trans (hbw.mono z5)
      refine noPanic_ret ?_
      refine leaves_cons (f := 80) (args := #[.pointer (some ⟨w.heap.size + 1, 0, none⟩)]) (by simp) (by simp [go_sem]) ?_
      refine ((HC.out).2 (w.heap.size + 1) _).mono ?_
      rintro e u' w7 ⟨rfl, rfl, rfl⟩
      have r7 := (d3.set 0 (.int .i64 0)).cell
      simp only [settle, Leaves]
      simp [Leaves, settle, results, Try.results28, go_sem, r7]
      exact ⟨rfl, hB6.setCell (by first | omega | (simp; done) | (simp; omega)) _⟩
end Go.Proofs.Ytjbjmoghloabpaa
