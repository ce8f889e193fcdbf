/- Parts of a proof: BnAE. -/
import Derived.Test.YtjbjmoghloabpaaP16
set_option linter.unusedVariables false
set_option linter.unusedSimpArgs false
namespace Go.Proofs.Ytjbjmoghloabpaa
open Go.RowKit Go.Proofs
attribute [local irreducible] Ord.walk
theorem wrapV {b : Bn} (hv : valid b = true) : wrap64 (b.V - 1) = b.V - 1 := by
  have := valid_V hv
  rw [IntWalk.wrap64_in _ (by omega)]

set_option maxHeartbeats 1000000 in
set_option maxRecDepth 100000 in
theorem b_Known_ok (b : Bn) (ga : Option Addr) (gc : Nat) (pa : Option Addr) (pc : Nat) (w : World) (hg : GsAt w ga b.gs) (hp : PsAt w pa b.ps) (hv : valid b = true) (hs : 0 < csum (countN b.V.toNat b.lo b.hi (knOf b))) :
    Calls Try.prog 18 #[bv b ga gc pa pc] w (Gives3 (.int .i64 (sureTo csum b.V.toNat b.lo b.hi (knOf b) b.V.toNat).1) (.int .i64 (sureTo csum b.V.toNat b.lo b.hi (knOf b) b.V.toNat).2) (.int .i64 0) w) := by
  have hmf : ∀ (fn : Fn) (first cap : Array Value) (w : World), (Instr.makeFunc fn first cap).run Try.prog w = .ok (.func fn first cap) w := fun _ _ _ _ => rfl
  have HO := Lib.hid (fun w' (hb : Below w.heap.size w w')  => b_open_ok b ga gc pa pc 46 #[] w' (hg.below hb) (hp.below hb) hv (fun args W => Try.call46 args W) (fun w2 v _ _ => b_always _ _))
  have HC := Lib.hid catch_Known
  have HS := Lib.hid hs
  have HT := Lib.hid (fun w1 v ka kc (hvt : Vt w1 v b b.V.toNat (knOf b) ga gc pa pc ka kc) => b_told_yes hvt HS.out)
  have hle := countN_sum b.V.toNat (by have := valid_V hv; omega) b.lo b.hi (knOf b)
  have q1 := cv_size (countN b.V.toNat b.lo b.hi (knOf b))
  have q2 := cv_ones (countN b.V.toNat b.lo b.hi (knOf b))
  have hcv : Hid (cv (countN b.V.toNat b.lo b.hi (knOf b)) = .agg (ocells (countN b.V.toNat b.lo b.hi (knOf b)))) := rfl
  have HU := Lib.hid (fun w1 v ka kc (hvt : Vt w1 v b b.V.toNat (knOf b) ga gc pa pc ka kc) => b_sure_all hvt)
  clear hs q1 q2 hcv hle
  generalize sureTo csum b.V.toNat b.lo b.hi (knOf b) b.V.toNat = SU at *
  generalize cv (countN b.V.toNat b.lo b.hi (knOf b)) = CV at *
  unfold bv at *
  go_enter_defers Try.func18, Try.ntmps18
  refine wp_noPanic ?_
  go_wp2_with fail
  with_reducible refine (HO.out _ (by (repeat (first | assumption | exact Below.refl _ _ | refine Below.drew ?_ | refine Below.alloc ?_ (by first | omega | (simp; done) | (simp; omega)) _ | refine Below.setCell ?_ (by first | omega | (simp; done) | (simp; omega)) _ | refine Below.trans ?_ (Below.mono (by assumption) (by first | omega | (simp; done) | (simp; omega))))))).mono ?_
  rintro e w1 ⟨v, ka, kc, rfl, hvt, hb1, hle⟩
  go_wp2_with fail
  with_reducible refine (HT.out _ _ _ _ hvt).mono ?_
  rintro e w2 ⟨rfl, hb2⟩
  go_wp2_with fail
  with_reducible refine (HU.out _ _ _ _ (hvt.below hb2)).mono ?_
  rintro e w3 ⟨rfl, hb3⟩
  have z1 := hb1.size
  have z2 := hb2.size
  have z3 := hb3.size
  simp only [World.size_alloc] at z1
  have b3 : Blk w3 (w.heap.size + 1) #[.int .i64 0] 30 := (((Blk.new' _ _ _ _ (by simp)).below hb1 (by first | omega | (simp; done) | (simp; omega))).below hb2 (by omega)).below hb3 (by omega)
  have hB3 : Below w.heap.size w w3 := ((((Below.refl _ _).alloc (Nat.le_refl _) _).alloc (by first | omega | (simp; done) | (simp; omega)) _).trans (hb1.mono (by first | omega | (simp; done) | (simp; omega)))).trans ((hb2.mono (by omega)).trans (hb3.mono (by omega)))
  clear hb1 hb2 hb3
  go_wp2_with (first
    | (refine wpList_store_blk 80 (.tmp 6) (.tmp 13) agg_sets rfl rfl rfl rfl (Blk.new _ _ _) rfl rfl (by simp [Value.oneCell']) ?_; intro w4 h4))
  have b4 := h4.blk
  have r4 := b4.cell
  have b5 := h4.other (b3.alloc _) (by have := b3.lt; omega)
  have hB5 : Below w.heap.size w w4 := h4.below (hB3.alloc hB3.size _) hB3.size
  have r5 := b5.cell
  have f5 := b5.free
  refine Ord.wp_region [(0, 0), (1, 0), (2, 0), (3, 0), (4, 0), (5, 0), (6, 2)] (fun _ => True) (by kernel_rfl) (by kernel_rfl) (fun c a d v w h => by cases d <;> exact h) trivial ?_
  go_wp2_with (first
    | ((with_reducible refine Ord.at_calm ?_); refine Ord.calm_skip rfl ?_ (fun K hK => ?_); (focus (simp [Region.wanted, yielded]; done))) | with_reducible refine Ord.walk_calm rfl rfl (fun K hK => ?_) | ((with_reducible refine Ord.at_wild ?_); refine Ord.wild_fieldAddr rfl rfl (fun W => by simp [go_sem]; rfl) (fun K hK => ?_)) | ((with_reducible refine Ord.at_wild ?_); refine Ord.wild_move rfl rfl (fun K hK => ?_)) | ((with_reducible refine Ord.at_wild ?_); refine Ord.wild_nilCheck rfl rfl (fun K hK => ?_)) | with_reducible refine Ord.walk_eff rfl (by first | (simp; done) | assumption | (go_simp; done) | (repeat (first | assumption | exact Below.refl _ _ | refine Below.drew ?_ | refine Below.alloc ?_ (by first | omega | (simp; done) | (simp; omega)) _ | refine Below.setCell ?_ (by first | omega | (simp; done) | (simp; omega)) _ | refine Below.trans ?_ (Below.mono (by assumption) (by first | omega | (simp; done) | (simp; omega)))))) (fun K hK => ?_) | with_reducible refine Ord.at_fork ?_ ?_ | with_reducible refine Ord.walk_nil ?_ | (with_reducible refine Ord.next_of (by first | (simp; done) | (go_simp; done) | (repeat (first | assumption | exact Below.refl _ _ | refine Below.drew ?_ | refine Below.alloc ?_ (by first | omega | (simp; done) | (simp; omega)) _ | refine Below.setCell ?_ (by first | omega | (simp; done) | (simp; omega)) _ | refine Below.trans ?_ (Below.mono (by assumption) (by first | omega | (simp; done) | (simp; omega)))))) (fun _ => ?_)))
  refine noPanic_ret ?_
  refine leaves_cons (f := 62) (args := #[.pointer (some ⟨w.heap.size + 1, 0, none⟩)]) (by simp) (by simp [go_sem]) ?_
  refine ((HC.out).2 (w.heap.size + 1) _).mono ?_
  rintro e u' w6 ⟨rfl, rfl, rfl⟩
  have r6 := (b5.set 0 (.int .i64 0)).drew.cell
  simp only [settle, Leaves]
  simp [Leaves, settle, results, Try.results18, go_sem, r6]
  exact ⟨rfl, (hB5.setCell (by first | omega | (simp; done) | (simp; omega)) _).drew⟩

set_option maxHeartbeats 1000000 in
set_option maxRecDepth 100000 in
theorem b_White_ok (b : Bn) (ga : Option Addr) (gc : Nat) (pa : Option Addr) (pc : Nat) (n : Nat) (w : World) (hg : GsAt w ga b.gs) (hp : PsAt w pa b.ps) (hv : valid b = true) (hi : (inB n 0 (wrap64 (b.V - 1))) = true) (hs : 0 < csum (countN b.V.toNat b.lo b.hi (knOf b))) :
    Calls Try.prog 16 #[bv b ga gc pa pc, .int .i64 n] w (Gives2 (.int .i64 (grI (csum (countN b.V.toNat b.lo b.hi (knOf b ++ [Kn.g (2 ^ n) 1 1])) : Nat) (csum (countN b.V.toNat b.lo b.hi (knOf b)) : Nat))) (.int .i64 0) w) := by
  have hmf : ∀ (fn : Fn) (first cap : Array Value) (w : World), (Instr.makeFunc fn first cap).run Try.prog w = .ok (.func fn first cap) w := fun _ _ _ _ => rfl
  have HO := Lib.hid (fun w' (hb : Below w.heap.size w w') (hc0 : w'.cell? ⟨w.heap.size + 1, 0, none⟩ = some (.int .i64 n)) => b_open_ok b ga gc pa pc 52 #[.pointer (some ⟨w.heap.size + 1, 0, none⟩)] w' (hg.below hb) (hp.below hb) hv (fun args W => Try.call52 args W) (fun w2 v hb2 h0 => by have := b_is_white v _ b.V n w2 h0 (cell_later hb2 hc0); rwa [hi] at this))
  have HC := Lib.hid catch_White
  have HS := Lib.hid hs
  have HT := Lib.hid (fun w1 v ka kc (hvt : Vt w1 v b b.V.toNat (knOf b) ga gc pa pc ka kc) => b_told_yes hvt HS.out)
  have hle := countN_sum b.V.toNat (by have := valid_V hv; omega) b.lo b.hi (knOf b)
  have q1 := cv_size (countN b.V.toNat b.lo b.hi (knOf b))
  have q2 := cv_ones (countN b.V.toNat b.lo b.hi (knOf b))
  have hcv : Hid (cv (countN b.V.toNat b.lo b.hi (knOf b)) = .agg (ocells (countN b.V.toNat b.lo b.hi (knOf b)))) := rfl
  have HA := Lib.hid (b_all (countN b.V.toNat b.lo b.hi (knOf b)) (by omega))
  have hb0 := inB_of (n := (n : Int)) (lo := 0) (hi := wrap64 (b.V - 1)) (by simpa using hi)
  rw [wrapV hv] at hb0
  have hV0 := valid_V hv
  have hlt0 : n < 8 := by omega
  clear hb0 hV0
  have hok : ∀ x ∈ [Kn.g (2 ^ n) 1 1], knOk x := by intro x hx; simp only [List.mem_singleton] at hx; subst hx; exact knIn_one (V := 8) (by omega)
  have HN := Lib.hid (fun w1 v ka kc (hvt : Vt w1 v b b.V.toNat (knOf b) ga gc pa pc ka kc) bk (hk : KnAt w1 (some ⟨bk, 0, none⟩) [Kn.g (2 ^ n) 1 1]) => hvt.counts [Kn.g (2 ^ n) 1 1] (some ⟨bk, 0, none⟩) 1 (2 ^ (knOf b).length - 1) hvt.full hk (by simp) hok (by simp))
  rw [sel_full] at HN
  have hle2 := countN_sum b.V.toNat (by have := valid_V hv; omega) b.lo b.hi (knOf b ++ [Kn.g (2 ^ n) 1 1])
  have HA2 := Lib.hid (b_all (countN b.V.toNat b.lo b.hi (knOf b ++ [Kn.g (2 ^ n) 1 1])) (by omega))
  have HB := Lib.hid (fun w' => b_one (n : Int) n rfl (by omega) true w')
  simp only [if_true] at HB
  clear hs q1 q2 hcv hle hle2 hok hi
  generalize csum (countN b.V.toNat b.lo b.hi (knOf b)) = S at *
  generalize cv (countN b.V.toNat b.lo b.hi (knOf b)) = CV at *
  generalize csum (countN b.V.toNat b.lo b.hi (knOf b ++ [Kn.g (2 ^ n) 1 1])) = S2 at *
  generalize cv (countN b.V.toNat b.lo b.hi (knOf b ++ [Kn.g (2 ^ n) 1 1])) = CV2 at *
  unfold bv at *
  go_enter_defers Try.func16, Try.ntmps16
  refine wp_noPanic ?_
  go_wp2_with fail
  with_reducible refine (HO.out _ (by (repeat (first | assumption | exact Below.refl _ _ | refine Below.drew ?_ | refine Below.alloc ?_ (by first | omega | (simp; done) | (simp; omega)) _ | refine Below.setCell ?_ (by first | omega | (simp; done) | (simp; omega)) _ | refine Below.trans ?_ (Below.mono (by assumption) (by first | omega | (simp; done) | (simp; omega)))))) (by simp [go_sem]; done)).mono ?_
  rintro e w1 ⟨v, ka, kc, rfl, hvt, hb1, hle⟩
  go_wp2_with fail
  with_reducible refine (HT.out _ _ _ _ hvt).mono ?_
  rintro e w2 ⟨rfl, hb2⟩
  go_wp2_with fail
  refine (HA.out _).mono ?_
  rintro e w3 ⟨rfl, hb3⟩
  have z1 := hb1.size
  have z2 := hb2.size
  have z3 := hb3.size
  simp only [World.size_alloc] at z1
  have hB23 : Below w1.heap.size w1 w3 := hb2.trans (hb3.mono z2)
  have b3 : Blk w3 (w.heap.size + 2) #[.int .i64 0] 30 := ((Blk.new' _ _ _ _ (by simp)).below hb1 (by first | omega | (simp; done) | (simp; omega))).below hB23 (by omega)
  have bnn : Blk w3 (w.heap.size + 1) #[.int .i64 n] 3 := (((Blk.new' _ _ _ _ (by simp)).alloc _).below hb1 (by first | omega | (simp; done) | (simp; omega))).below hB23 (by omega)
  have rnn := bnn.cell 0
  have hB3 : Below w.heap.size w w3 := (((((Below.refl _ _).alloc (Nat.le_refl _) _).alloc (by first | omega | (simp; done) | (simp; omega)) _).alloc (by first | omega | (simp; done) | (simp; omega)) _).trans (hb1.mono (by first | omega | (simp; done) | (simp; omega)))).trans (hB23.mono (by omega))
  have hvt3 := hvt.below hB23
  clear hb1 hb2 hb3 hB23 hvt
  go_wp2_with fail
  have l3 := b3.lt
  have z3' := hB3.size
  refine Ord.wp_region [(0, 1), (1, 0), (2, 0), (3, 0), (8, 1), (4, 2), (5, 2), (6, 2), (7, 2), (9, 0), (10, 0), (11, 2)] (fun _ => True) (by kernel_rfl) (by kernel_rfl) (fun c a d v w h => by cases d <;> exact h) trivial ?_
  have HE := Lib.hid hvt3.every
  have HE2 := Lib.hid (fun w' (hb : Below w3.heap.size w3 w') => (hvt3.below hb).every)
  go_wp2_with (first
    | (go_at_call 58; refine (HB.out _).mono ?_; rintro e w4 ⟨rfl, hb4⟩; refine at_stop ?_)
    | ((with_reducible refine Ord.at_calm ?_); refine Ord.calm_skip rfl ?_ (fun K hK => ?_); (focus (simp [Region.wanted, yielded]; done))) | with_reducible refine Ord.walk_calm rfl rfl (fun K hK => ?_) | ((with_reducible refine Ord.at_wild ?_); refine Ord.wild_fieldAddr rfl rfl (fun W => by simp [go_sem]; rfl) (fun K hK => ?_)) | ((with_reducible refine Ord.at_wild ?_); refine Ord.wild_move rfl rfl (fun K hK => ?_)) | ((with_reducible refine Ord.at_wild ?_); refine Ord.wild_nilCheck rfl rfl (fun K hK => ?_)) | with_reducible refine Ord.walk_eff rfl (by first | (simp; done) | assumption | (go_simp; done) | (repeat (first | assumption | exact Below.refl _ _ | refine Below.drew ?_ | refine Below.alloc ?_ (by first | omega | (simp; done) | (simp; omega)) _ | refine Below.setCell ?_ (by first | omega | (simp; done) | (simp; omega)) _ | refine Below.trans ?_ (Below.mono (by assumption) (by first | omega | (simp; done) | (simp; omega)))))) (fun K hK => ?_) | with_reducible refine Ord.at_fork ?_ ?_ | with_reducible refine Ord.walk_nil ?_ | (with_reducible refine Ord.next_of (by first | (simp; done) | (go_simp; done) | (repeat (first | assumption | exact Below.refl _ _ | refine Below.drew ?_ | refine Below.alloc ?_ (by first | omega | (simp; done) | (simp; omega)) _ | refine Below.setCell ?_ (by first | omega | (simp; done) | (simp; omega)) _ | refine Below.trans ?_ (Below.mono (by assumption) (by first | omega | (simp; done) | (simp; omega)))))) (fun _ => ?_))
    | ((with_reducible refine Ord.at_calm ?_); refine Ord.calm_call rfl (fun W => Try.call57 _ W) (HE2.out _ (by (repeat (first | assumption | exact Below.refl _ _ | refine Below.drew ?_ | refine Below.alloc ?_ (by first | omega | (simp; done) | (simp; omega)) _ | refine Below.setCell ?_ (by first | omega | (simp; done) | (simp; omega)) _ | refine Below.trans ?_ (Below.mono (by assumption) (by first | omega | (simp; done) | (simp; omega))))))) (fun K hK => ?_)) | ((with_reducible refine Ord.at_wild ?_); refine Ord.wild_call rfl (fun W => Try.call57 _ W) (fun W hW => HE2.out _ (by (repeat (first | assumption | exact Below.refl _ _ | refine Below.drew ?_ | refine Below.alloc ?_ (by first | omega | (simp; done) | (simp; omega)) _ | refine Below.setCell ?_ (by first | omega | (simp; done) | (simp; omega)) _ | refine Below.trans ?_ (Below.mono (by assumption) (by first | omega | (simp; done) | (simp; omega))))))) (fun K hK => ?_)))
  unfold Stop
  have hB4 : Below w3.heap.size w3 w4 := (Below.refl _ _).drew.trans (hb4.mono (by simp))
  have z4 := hB4.size
  go_wp2_with (first
    | (go_at_call 56; refine (HN.out _ _ _ _ (hvt3.below (hB4.alloc z4 _)) _ (kn_one _ _ _)).mono ?_; rintro e w5 ⟨rfl, hb5⟩; refine at_stop ?_)
    | ((with_reducible refine Ord.at_calm ?_); refine Ord.calm_skip rfl ?_ (fun K hK => ?_); (focus (simp [Region.wanted, yielded]; done))) | with_reducible refine Ord.walk_calm rfl rfl (fun K hK => ?_) | ((with_reducible refine Ord.at_wild ?_); refine Ord.wild_fieldAddr rfl rfl (fun W => by simp [go_sem]; rfl) (fun K hK => ?_)) | ((with_reducible refine Ord.at_wild ?_); refine Ord.wild_move rfl rfl (fun K hK => ?_)) | ((with_reducible refine Ord.at_wild ?_); refine Ord.wild_nilCheck rfl rfl (fun K hK => ?_)) | with_reducible refine Ord.walk_eff rfl (by first | (simp; done) | assumption | (go_simp; done) | (repeat (first | assumption | exact Below.refl _ _ | refine Below.drew ?_ | refine Below.alloc ?_ (by first | omega | (simp; done) | (simp; omega)) _ | refine Below.setCell ?_ (by first | omega | (simp; done) | (simp; omega)) _ | refine Below.trans ?_ (Below.mono (by assumption) (by first | omega | (simp; done) | (simp; omega)))))) (fun K hK => ?_) | with_reducible refine Ord.at_fork ?_ ?_ | with_reducible refine Ord.walk_nil ?_ | (with_reducible refine Ord.next_of (by first | (simp; done) | (go_simp; done) | (repeat (first | assumption | exact Below.refl _ _ | refine Below.drew ?_ | refine Below.alloc ?_ (by first | omega | (simp; done) | (simp; omega)) _ | refine Below.setCell ?_ (by first | omega | (simp; done) | (simp; omega)) _ | refine Below.trans ?_ (Below.mono (by assumption) (by first | omega | (simp; done) | (simp; omega)))))) (fun _ => ?_)))
  unfold Stop
  have hB5 : Below w3.heap.size w3 w5 := (hB4.alloc z4 _).trans (hb5.mono (by simp; omega))
  have z5 := hB5.size
  go_wp2_with (first
    | (go_at_call 54; refine (HA2.out _).mono ?_; rintro e w6 ⟨rfl, hb6⟩; refine at_stop ?_)
    | ((with_reducible refine Ord.at_calm ?_); refine Ord.calm_skip rfl ?_ (fun K hK => ?_); (focus (simp [Region.wanted, yielded]; done))) | with_reducible refine Ord.walk_calm rfl rfl (fun K hK => ?_) | ((with_reducible refine Ord.at_wild ?_); refine Ord.wild_fieldAddr rfl rfl (fun W => by simp [go_sem]; rfl) (fun K hK => ?_)) | ((with_reducible refine Ord.at_wild ?_); refine Ord.wild_move rfl rfl (fun K hK => ?_)) | ((with_reducible refine Ord.at_wild ?_); refine Ord.wild_nilCheck rfl rfl (fun K hK => ?_)) | with_reducible refine Ord.walk_eff rfl (by first | (simp; done) | assumption | (go_simp; done) | (repeat (first | assumption | exact Below.refl _ _ | refine Below.drew ?_ | refine Below.alloc ?_ (by first | omega | (simp; done) | (simp; omega)) _ | refine Below.setCell ?_ (by first | omega | (simp; done) | (simp; omega)) _ | refine Below.trans ?_ (Below.mono (by assumption) (by first | omega | (simp; done) | (simp; omega)))))) (fun K hK => ?_) | with_reducible refine Ord.at_fork ?_ ?_ | with_reducible refine Ord.walk_nil ?_ | (with_reducible refine Ord.next_of (by first | (simp; done) | (go_simp; done) | (repeat (first | assumption | exact Below.refl _ _ | refine Below.drew ?_ | refine Below.alloc ?_ (by first | omega | (simp; done) | (simp; omega)) _ | refine Below.setCell ?_ (by first | omega | (simp; done) | (simp; omega)) _ | refine Below.trans ?_ (Below.mono (by assumption) (by first | omega | (simp; done) | (simp; omega)))))) (fun _ => ?_)))
  unfold Stop
  have hB6 : Below w3.heap.size w3 w6 := hB5.trans (hb6.mono z5)
  have b5 := b3.below hB6 l3
  have r5 := b5.cell
  have f5 := b5.free
  have hB5 : Below w.heap.size w w6 := hB3.trans (hB6.mono z3')
  go_wp2_with (first
    | ((with_reducible refine Ord.at_calm ?_); refine Ord.calm_skip rfl ?_ (fun K hK => ?_); (focus (simp [Region.wanted, yielded]; done))) | with_reducible refine Ord.walk_calm rfl rfl (fun K hK => ?_) | ((with_reducible refine Ord.at_wild ?_); refine Ord.wild_fieldAddr rfl rfl (fun W => by simp [go_sem]; rfl) (fun K hK => ?_)) | ((with_reducible refine Ord.at_wild ?_); refine Ord.wild_move rfl rfl (fun K hK => ?_)) | ((with_reducible refine Ord.at_wild ?_); refine Ord.wild_nilCheck rfl rfl (fun K hK => ?_)) | with_reducible refine Ord.walk_eff rfl (by first | (simp; done) | assumption | (go_simp; done) | (repeat (first | assumption | exact Below.refl _ _ | refine Below.drew ?_ | refine Below.alloc ?_ (by first | omega | (simp; done) | (simp; omega)) _ | refine Below.setCell ?_ (by first | omega | (simp; done) | (simp; omega)) _ | refine Below.trans ?_ (Below.mono (by assumption) (by first | omega | (simp; done) | (simp; omega)))))) (fun K hK => ?_) | with_reducible refine Ord.at_fork ?_ ?_ | with_reducible refine Ord.walk_nil ?_ | (with_reducible refine Ord.next_of (by first | (simp; done) | (go_simp; done) | (repeat (first | assumption | exact Below.refl _ _ | refine Below.drew ?_ | refine Below.alloc ?_ (by first | omega | (simp; done) | (simp; omega)) _ | refine Below.setCell ?_ (by first | omega | (simp; done) | (simp; omega)) _ | refine Below.trans ?_ (Below.mono (by assumption) (by first | omega | (simp; done) | (simp; omega)))))) (fun _ => ?_))
    | ((with_reducible refine Ord.at_calm ?_); refine Ord.calm_call rfl (fun W => Try.call55 _ W) (b_graded _ _ _) (fun K hK => ?_)) | ((with_reducible refine Ord.at_wild ?_); refine Ord.wild_call rfl (fun W => Try.call55 _ W) (fun W hW => b_graded _ _ _) (fun K hK => ?_)))
  refine noPanic_ret ?_
  refine leaves_cons (f := 51) (args := #[.pointer (some ⟨w.heap.size + 2, 0, none⟩)]) (by simp) (by simp [go_sem]) ?_
  refine ((HC.out).2 (w.heap.size + 2) _).mono ?_
  rintro e u' w6 ⟨rfl, rfl, rfl⟩
  have r6 := (b5.set 0 (.int .i64 0)).cell
  simp only [settle, Leaves]
  simp [Leaves, settle, results, Try.results16, go_sem, r6]
  exact ⟨rfl, (hB5.setCell (by first | omega | (simp; done) | (simp; omega)) _)⟩

set_option maxHeartbeats 1000000 in
set_option maxRecDepth 100000 in
theorem b_Same_ok (b : Bn) (ga : Option Addr) (gc : Nat) (pa : Option Addr) (pc : Nat) (n m : Nat) (w : World) (hg : GsAt w ga b.gs) (hp : PsAt w pa b.ps) (hv : valid b = true) (hi : ((inB n 0 (wrap64 (b.V - 1)) && inB m 0 (wrap64 (b.V - 1)))) = true) (hs : 0 < csum (countN b.V.toNat b.lo b.hi (knOf b))) :
    Calls Try.prog 22 #[bv b ga gc pa pc, .int .i64 n, .int .i64 m] w (Gives2 (.int .i64 (grI (csum (countN b.V.toNat b.lo b.hi (knOf b ++ [Kn.p n m true])) : Nat) (csum (countN b.V.toNat b.lo b.hi (knOf b)) : Nat))) (.int .i64 0) w) := by
  have hmf : ∀ (fn : Fn) (first cap : Array Value) (w : World), (Instr.makeFunc fn first cap).run Try.prog w = .ok (.func fn first cap) w := fun _ _ _ _ => rfl
  have HO := Lib.hid (fun w' (hb : Below w.heap.size w w') (hc0 : w'.cell? ⟨w.heap.size + 1, 0, none⟩ = some (.int .i64 n)) (hc1 : w'.cell? ⟨w.heap.size + 2, 0, none⟩ = some (.int .i64 m)) => b_open_ok b ga gc pa pc 68 #[.pointer (some ⟨w.heap.size + 1, 0, none⟩), .pointer (some ⟨w.heap.size + 2, 0, none⟩)] w' (hg.below hb) (hp.below hb) hv (fun args W => Try.call68 args W) (fun w2 v hb2 h0 => by have := b_is_same v _ _ b.V n m w2 h0 (cell_later hb2 hc0) (cell_later hb2 hc1); rwa [hi] at this))
  have HC := Lib.hid catch_Same
  have HS := Lib.hid hs
  have HT := Lib.hid (fun w1 v ka kc (hvt : Vt w1 v b b.V.toNat (knOf b) ga gc pa pc ka kc) => b_told_yes hvt HS.out)
  have hle := countN_sum b.V.toNat (by have := valid_V hv; omega) b.lo b.hi (knOf b)
  have q1 := cv_size (countN b.V.toNat b.lo b.hi (knOf b))
  have q2 := cv_ones (countN b.V.toNat b.lo b.hi (knOf b))
  have hcv : Hid (cv (countN b.V.toNat b.lo b.hi (knOf b)) = .agg (ocells (countN b.V.toNat b.lo b.hi (knOf b)))) := rfl
  have HA := Lib.hid (b_all (countN b.V.toNat b.lo b.hi (knOf b)) (by omega))
  have hb0 := inB_of (n := (n : Int)) (lo := 0) (hi := wrap64 (b.V - 1)) (by simp only [Bool.and_eq_true] at hi; exact hi.1)
  rw [wrapV hv] at hb0
  have hV0 := valid_V hv
  have hlt0 : n < 8 := by omega
  clear hb0 hV0
  have hb1 := inB_of (n := (m : Int)) (lo := 0) (hi := wrap64 (b.V - 1)) (by simp only [Bool.and_eq_true] at hi; exact hi.2)
  rw [wrapV hv] at hb1
  have hV1 := valid_V hv
  have hlt1 : m < 8 := by omega
  clear hb1 hV1
  have hok : ∀ x ∈ [Kn.p n m true], knOk x := by intro x hx; simp only [List.mem_singleton] at hx; subst hx; exact ⟨by omega, by omega⟩
  have HN := Lib.hid (fun w1 v ka kc (hvt : Vt w1 v b b.V.toNat (knOf b) ga gc pa pc ka kc) bk (hk : KnAt w1 (some ⟨bk, 0, none⟩) [Kn.p n m true]) => hvt.counts [Kn.p n m true] (some ⟨bk, 0, none⟩) 1 (2 ^ (knOf b).length - 1) hvt.full hk (by simp) hok (by simp))
  rw [sel_full] at HN
  have hle2 := countN_sum b.V.toNat (by have := valid_V hv; omega) b.lo b.hi (knOf b ++ [Kn.p n m true])
  have HA2 := Lib.hid (b_all (countN b.V.toNat b.lo b.hi (knOf b ++ [Kn.p n m true])) (by omega))
  clear hs q1 q2 hcv hle hle2 hok hi
  generalize csum (countN b.V.toNat b.lo b.hi (knOf b)) = S at *
  generalize cv (countN b.V.toNat b.lo b.hi (knOf b)) = CV at *
  generalize csum (countN b.V.toNat b.lo b.hi (knOf b ++ [Kn.p n m true])) = S2 at *
  generalize cv (countN b.V.toNat b.lo b.hi (knOf b ++ [Kn.p n m true])) = CV2 at *
  unfold bv at *
  go_enter_defers Try.func22, Try.ntmps22
  refine wp_noPanic ?_
  go_wp2_with fail
  with_reducible refine (HO.out _ (by (repeat (first | assumption | exact Below.refl _ _ | refine Below.drew ?_ | refine Below.alloc ?_ (by first | omega | (simp; done) | (simp; omega)) _ | refine Below.setCell ?_ (by first | omega | (simp; done) | (simp; omega)) _ | refine Below.trans ?_ (Below.mono (by assumption) (by first | omega | (simp; done) | (simp; omega)))))) (by simp [go_sem]; done) (by simp [go_sem]; done)).mono ?_
  rintro e w1 ⟨v, ka, kc, rfl, hvt, hb1, hle⟩
  go_wp2_with fail
  with_reducible refine (HT.out _ _ _ _ hvt).mono ?_
  rintro e w2 ⟨rfl, hb2⟩
  go_wp2_with fail
  refine (HA.out _).mono ?_
  rintro e w3 ⟨rfl, hb3⟩
  have z1 := hb1.size
  have z2 := hb2.size
  have z3 := hb3.size
  simp only [World.size_alloc] at z1
  have hB23 : Below w1.heap.size w1 w3 := hb2.trans (hb3.mono z2)
  have b3 : Blk w3 (w.heap.size + 3) #[.int .i64 0] 30 := ((Blk.new' _ _ _ _ (by simp)).below hb1 (by first | omega | (simp; done) | (simp; omega))).below hB23 (by omega)
  have bnn : Blk w3 (w.heap.size + 1) #[.int .i64 n] 3 := ((((Blk.new' _ _ _ _ (by simp)).alloc _).alloc _).below hb1 (by first | omega | (simp; done) | (simp; omega))).below hB23 (by omega)
  have rnn := bnn.cell 0
  have bmn : Blk w3 (w.heap.size + 2) #[.int .i64 m] 3 := (((Blk.new' _ _ _ _ (by simp)).alloc _).below hb1 (by first | omega | (simp; done) | (simp; omega))).below hB23 (by omega)
  have rmn := bmn.cell 0
  have hB3 : Below w.heap.size w w3 := ((((((Below.refl _ _).alloc (Nat.le_refl _) _).alloc (by first | omega | (simp; done) | (simp; omega)) _).alloc (by first | omega | (simp; done) | (simp; omega)) _).alloc (by first | omega | (simp; done) | (simp; omega)) _).trans (hb1.mono (by first | omega | (simp; done) | (simp; omega)))).trans (hB23.mono (by omega))
  have hvt3 := hvt.below hB23
  clear hb1 hb2 hb3 hB23 hvt
  go_wp2_with fail
  have l3 := b3.lt
  have z3' := hB3.size
  have c63 := hvt3.va.c6
  have hv3 : v ≠ w3.heap.size := by have := World.block_lt_of_cell? w3 _ c63; simp only at this; omega
  refine Ord.wp_region [(0, 1), (1, 1), (2, 1), (3, 0), (4, 0), (5, 0), (6, 0), (7, 0), (8, 0), (12, 1), (9, 2), (10, 2), (11, 2), (13, 0), (14, 0), (15, 2)] (fun W => W.cell? ⟨v, 6, none⟩ = some (.slice ka (knOf b).length kc)) (by kernel_rfl) (by kernel_rfl) (fun c a d v w h => by cases d <;> exact h) hvt3.va.c6 ?_
  have HE := Lib.hid hvt3.every
  have HE2 := Lib.hid (fun w' (hb : Below w3.heap.size w3 w') => (hvt3.below hb).every)
  go_wp2_with (first
    | (go_at_call 56; refine (HN.out _ _ _ _ (hvt3.below ((Below.refl _ _).drew.alloc (by simp) _)) _ (kn_one _ _ _)).mono ?_; rintro e w5 ⟨rfl, hb5⟩; refine at_stop ?_)
    | ((with_reducible refine Ord.at_calm ?_); refine Ord.calm_skip rfl ?_ (fun K hK => ?_); (focus (simp [Region.wanted, yielded]; done))) | with_reducible refine Ord.walk_calm rfl rfl (fun K hK => ?_) | ((with_reducible refine Ord.at_wild ?_); refine Ord.wild_fieldAddr rfl rfl (fun W => by simp [go_sem]; rfl) (fun K hK => ?_)) | ((with_reducible refine Ord.at_wild ?_); refine Ord.wild_move rfl rfl (fun K hK => ?_)) | ((with_reducible refine Ord.at_wild ?_); refine Ord.wild_nilCheck rfl rfl (fun K hK => ?_)) | with_reducible refine Ord.walk_eff rfl (by first | (simp; done) | assumption | (go_simp; done) | (repeat (first | assumption | exact Below.refl _ _ | refine Below.drew ?_ | refine Below.alloc ?_ (by first | omega | (simp; done) | (simp; omega)) _ | refine Below.setCell ?_ (by first | omega | (simp; done) | (simp; omega)) _ | refine Below.trans ?_ (Below.mono (by assumption) (by first | omega | (simp; done) | (simp; omega)))))) (fun K hK => ?_) | with_reducible refine Ord.at_fork ?_ ?_ | with_reducible refine Ord.walk_nil ?_ | (with_reducible refine Ord.next_of (by first | (simp; done) | (go_simp; done) | (repeat (first | assumption | exact Below.refl _ _ | refine Below.drew ?_ | refine Below.alloc ?_ (by first | omega | (simp; done) | (simp; omega)) _ | refine Below.setCell ?_ (by first | omega | (simp; done) | (simp; omega)) _ | refine Below.trans ?_ (Below.mono (by assumption) (by first | omega | (simp; done) | (simp; omega)))))) (fun _ => ?_))
    | ((with_reducible refine Ord.at_calm ?_); refine Ord.calm_call rfl (fun W => Try.call57 _ W) (b_every v _ ka (knOf b).length kc hvt3.hkl hW) (fun K hK => ?_)) | ((with_reducible refine Ord.at_wild ?_); refine Ord.wild_call rfl (fun W => Try.call57 _ W) (fun W hW => b_every v _ ka (knOf b).length kc hvt3.hkl hW) (fun K hK => ?_)))
  unfold Stop
  have hB5 : Below w3.heap.size w3 w5 := ((Below.refl _ _).drew.alloc (by simp) _).trans (hb5.mono (by simp))
  have z5 := hB5.size
  have c65 := cell_later hB5 hvt3.va.c6
  go_wp2_with (first
    | (go_at_call 54; refine (HA2.out _).mono ?_; rintro e w6 ⟨rfl, hb6⟩; refine at_stop ?_)
    | ((with_reducible refine Ord.at_calm ?_); refine Ord.calm_skip rfl ?_ (fun K hK => ?_); (focus (simp [Region.wanted, yielded]; done))) | with_reducible refine Ord.walk_calm rfl rfl (fun K hK => ?_) | ((with_reducible refine Ord.at_wild ?_); refine Ord.wild_fieldAddr rfl rfl (fun W => by simp [go_sem]; rfl) (fun K hK => ?_)) | ((with_reducible refine Ord.at_wild ?_); refine Ord.wild_move rfl rfl (fun K hK => ?_)) | ((with_reducible refine Ord.at_wild ?_); refine Ord.wild_nilCheck rfl rfl (fun K hK => ?_)) | with_reducible refine Ord.walk_eff rfl (by first | (simp; done) | assumption | (go_simp; done) | (repeat (first | assumption | exact Below.refl _ _ | refine Below.drew ?_ | refine Below.alloc ?_ (by first | omega | (simp; done) | (simp; omega)) _ | refine Below.setCell ?_ (by first | omega | (simp; done) | (simp; omega)) _ | refine Below.trans ?_ (Below.mono (by assumption) (by first | omega | (simp; done) | (simp; omega)))))) (fun K hK => ?_) | with_reducible refine Ord.at_fork ?_ ?_ | with_reducible refine Ord.walk_nil ?_ | (with_reducible refine Ord.next_of (by first | (simp; done) | (go_simp; done) | (repeat (first | assumption | exact Below.refl _ _ | refine Below.drew ?_ | refine Below.alloc ?_ (by first | omega | (simp; done) | (simp; omega)) _ | refine Below.setCell ?_ (by first | omega | (simp; done) | (simp; omega)) _ | refine Below.trans ?_ (Below.mono (by assumption) (by first | omega | (simp; done) | (simp; omega)))))) (fun _ => ?_)))
  unfold Stop
  have hB6 : Below w3.heap.size w3 w6 := hB5.trans (hb6.mono z5)
  have b5 := b3.below hB6 l3
  have c66 := cell_later hB6 hvt3.va.c6
  have hvne : v ≠ w.heap.size + 1 + 1 + 1 := by simp only [World.size_alloc] at hle; omega
  have r5 := b5.cell
  have f5 := b5.free
  have hB5 : Below w.heap.size w w6 := hB3.trans (hB6.mono z3')
  go_wp2_with (first
    | ((with_reducible refine Ord.at_calm ?_); refine Ord.calm_skip rfl ?_ (fun K hK => ?_); (focus (simp [Region.wanted, yielded]; done))) | with_reducible refine Ord.walk_calm rfl rfl (fun K hK => ?_) | ((with_reducible refine Ord.at_wild ?_); refine Ord.wild_fieldAddr rfl rfl (fun W => by simp [go_sem]; rfl) (fun K hK => ?_)) | ((with_reducible refine Ord.at_wild ?_); refine Ord.wild_move rfl rfl (fun K hK => ?_)) | ((with_reducible refine Ord.at_wild ?_); refine Ord.wild_nilCheck rfl rfl (fun K hK => ?_)) | with_reducible refine Ord.walk_eff rfl (by first | (simp; done) | assumption | (go_simp; done) | (repeat (first | assumption | exact Below.refl _ _ | refine Below.drew ?_ | refine Below.alloc ?_ (by first | omega | (simp; done) | (simp; omega)) _ | refine Below.setCell ?_ (by first | omega | (simp; done) | (simp; omega)) _ | refine Below.trans ?_ (Below.mono (by assumption) (by first | omega | (simp; done) | (simp; omega)))))) (fun K hK => ?_) | with_reducible refine Ord.at_fork ?_ ?_ | with_reducible refine Ord.walk_nil ?_ | (with_reducible refine Ord.next_of (by first | (simp; done) | (go_simp; done) | (repeat (first | assumption | exact Below.refl _ _ | refine Below.drew ?_ | refine Below.alloc ?_ (by first | omega | (simp; done) | (simp; omega)) _ | refine Below.setCell ?_ (by first | omega | (simp; done) | (simp; omega)) _ | refine Below.trans ?_ (Below.mono (by assumption) (by first | omega | (simp; done) | (simp; omega)))))) (fun _ => ?_))
    | ((with_reducible refine Ord.at_calm ?_); refine Ord.calm_call rfl (fun W => Try.call55 _ W) (b_graded _ _ _) (fun K hK => ?_)) | ((with_reducible refine Ord.at_wild ?_); refine Ord.wild_call rfl (fun W => Try.call55 _ W) (fun W hW => b_graded _ _ _) (fun K hK => ?_)))
  refine noPanic_ret ?_
  refine leaves_cons (f := 67) (args := #[.pointer (some ⟨w.heap.size + 3, 0, none⟩)]) (by simp) (by simp [go_sem]) ?_
  refine ((HC.out).2 (w.heap.size + 3) _).mono ?_
  rintro e u' w6 ⟨rfl, rfl, rfl⟩
  have r6 := (b5.set 0 (.int .i64 0)).cell
  simp only [settle, Leaves]
  simp [Leaves, settle, results, Try.results22, go_sem, r6]
  exact ⟨rfl, (hB5.setCell (by first | omega | (simp; done) | (simp; omega)) _)⟩
end Go.Proofs.Ytjbjmoghloabpaa
