/- Package mob: stretches of an open way. -/
import Derived.Test.YteeinehpneppnaaGreatMoO
set_option linter.unusedVariables false
set_option linter.unusedSimpArgs false
namespace Go.Proofs.YteeinehpneppnaaGreat
open Go.RowKit Go.Proofs
attribute [local irreducible] Ord.walk
/-- The longest stretch of a mob, as a span. -/
def stretS (m : Mb) (L : List Int) (i : Nat) : Int × Int := (dryM m L (startN m i), dryM m L (startN m i))
set_option maxHeartbeats 40000000 in
set_option maxRecDepth 100000 in
theorem m_stretches1 {m : Mb} {A : Ma} {pa : Option Addr} {pc wp mb : Nat} {W0 : World} (hv : validM m = true) (hO : Opened W0 wp m A pa pc mb) {L : List Int} (hL : L ∈ prodL m.legs) (i : Nat) (hi : i < m.herds.length) (n0 n1 n2 : Nat) (w : World) (hW : Way W0 mb m w)
    (b0 : Blk w n0 #[.func (.func 86) #[] #[]] 125) (b1 : Blk w n1 #[.pointer (some ⟨wp, 0, none⟩)] 51) (b2 : Blk w n2 #[.int .i64 (i : Int)] 3) :
    Calls Tryz.prog 87 #[.agg (legC L), .pointer (some ⟨n0, 0, none⟩), .pointer (some ⟨n1, 0, none⟩), .pointer (some ⟨n2, 0, none⟩)] w (GivesW W0 mb m (spv (stretS m L i)) w) := by
  have hmb := hO.mb_lt
  have hlen := validM_len hv
  have hsz := hW.2.size
  obtain ⟨W2, hW2⟩ : ∃ W2, W2 = (w.alloc (.cells (legC L) 58)).alloc (.cells #[.int .i64 0, .int .i64 0] 31) := ⟨_, rfl⟩
  have hB2 : Below w.heap.size w W2 := by rw [hW2]; (repeat (first | assumption | exact Below.refl _ _ | refine Below.drew ?_ | refine Below.alloc ?_ (by first | omega | (simp; done) | (simp; omega)) _ | refine Below.setCell ?_ (by first | omega | (simp; done) | (simp; omega)) _ | refine Below.trans ?_ (Below.mono (by assumption) (by first | omega | (simp; done) | (simp; omega)))))
  have bl : Blk W2 w.heap.size (legC L) 58 := by rw [hW2]; exact (Blk.new _ _ _).alloc _
  have bs : Blk W2 (w.heap.size + 1) #[.int .i64 0, .int .i64 0] 31 := by rw [hW2]; exact Blk.new' _ _ _ _ (by simp)
  have hs2 : W2.heap.size = w.heap.size + 2 := by rw [hW2]; simp
  have hWy2 : Way W0 mb m W2 := hW.below hB2 hmb
  have hw2 := hO.at_ hWy2
  obtain ⟨gb, go, e0, e1, e2, e3, e4⟩ := hw2.args.herds.get4 hi
  have HC : Hid (Calls Tryz.prog 86 #[.agg (hdC m.herds[i]), .slice pa m.places.length pc, .agg (legC L)] W2.drew (Gives (.int .i64 (dryM m L (startN m i))) W2.drew)) := m_stretch hv hL m.herds[i] (startN m i) (startN_eq hv hi).1 (by have := (startN_eq hv hi).2; omega) pa pc W2.drew (hO.at_ hWy2.drew).spots
  have HS : Hid (stretS m L i = (dryM m L (startN m i), dryM m L (startN m i))) := rfl
  generalize dryM m L (startN m i) = dy at *
  have r0 := (b0.below hB2 b0.lt).cell
  have r1 := (b1.below hB2 b1.lt).cell
  have r2 := (b2.below hB2 b2.lt).cell
  have rw' := hw2.blk.cell
  have bld := bl.drew
  have hL2 : Lets (fun k _ => k = mb) w W2 := Lets.of_below hB2
  rcases A with ⟨qa, qc, la, lc, ha, hc, sa, sc⟩
  simp only at e0
  subst e0
  generalize m.herds[i] = hd at *
  obtain ⟨d1, d2, d3, d4⟩ := hd
  simp only at *
  have hii : (i : Int) < (m.herds.length : Int) := by omega
  have hh4 : (m.herds.length : Int) ≤ 4 := by omega
  clear b0 b1 b2 hL
  have hs2a : W2.heap.size ≤ w.heap.size + 2 ∧ w.heap.size + 2 ≤ W2.heap.size := by omega
  clear hs2
  go_enter Tryz.func87, Tryz.ntmps87
  go_upto_region 1 with fail
  rw [← hW2]
  clear hW2
  go_wp2_with fail
  refine Ord.wp_regionN [(0, 0), (1, 0), (2, 0), (3, 0), (4, 0), (5, 0), (6, 0), (7, 0), (8, 0), (9, 0), (10, 0), (11, 0), (12, 0), (13, 0), (14, 2), (15, 0)] (fun _ => True) (by kernel_rfl) (by kernel_rfl) trivial ?_
  go_wp2_with (first
    | (refine wpList_load_blk 58 (.tmp 4) agg_legs rfl rfl rfl bld rfl ?_)
    | (go_at_call 86; refine HC.out.mono ?_; rintro e w6 ⟨rfl, hb6⟩; have b26 := bs.drew.below hb6 bs.lt)
    | (refine wpList_store_blk 31 (.tmp 5) (.tmp 24) agg_span rfl rfl rfl rfl b26 rfl rfl (by simp [Value.oneCell']) ?_; intro w8 h8)
    | (with_reducible refine Ord.at_nm ?_)
    | ((with_reducible refine Ord.at_calm ?_); refine Ord.calm_skip rfl ?_ (fun K hK => ?_); (focus (simp [Region.wanted, yielded]; done))) | with_reducible refine Ord.walk_calm rfl rfl (fun K hK => ?_) | ((with_reducible refine Ord.at_wild ?_); refine Ord.wild_fieldAddr rfl rfl (fun W => by simp [go_sem]; rfl) (fun K hK => ?_)) | ((with_reducible refine Ord.at_wild ?_); refine Ord.wild_move rfl rfl (fun K hK => ?_)) | ((with_reducible refine Ord.at_wild ?_); refine Ord.wild_nilCheck rfl rfl (fun K hK => ?_)) | with_reducible refine Ord.walk_eff rfl (by first | (simp; done) | assumption | (go_simp; done) | (repeat (first | assumption | exact Below.refl _ _ | refine Below.drew ?_ | refine Below.alloc ?_ (by first | omega | (simp; done) | (simp; omega)) _ | refine Below.setCell ?_ (by first | omega | (simp; done) | (simp; omega)) _ | refine Below.trans ?_ (Below.mono (by assumption) (by first | omega | (simp; done) | (simp; omega)))))) (fun K hK => ?_) | with_reducible refine Ord.at_fork ?_ ?_ | with_reducible refine Ord.walk_nil ?_ | (with_reducible refine Ord.next_of (by first | (simp; done) | (go_simp; done) | (repeat (first | assumption | exact Below.refl _ _ | refine Below.drew ?_ | refine Below.alloc ?_ (by first | omega | (simp; done) | (simp; omega)) _ | refine Below.setCell ?_ (by first | omega | (simp; done) | (simp; omega)) _ | refine Below.trans ?_ (Below.mono (by assumption) (by first | omega | (simp; done) | (simp; omega)))))) (fun _ => ?_)))
  (try simp only [Exit.inBlock, Exit.then])
  have hl8 : Lets (fun k _ => k = w.heap.size + 1) w6 w8 := (Lets.refl _ _).rowed h8 rfl
  refine bodyPost_ret (v := spv (dy, dy)) (results_cell_blk rfl _ agg_span rfl h8.blk rfl) rfl ⟨by rw [HS.out], ((hWy2.drew).below hb6 hmb).lets hl8 hmb (fun _ _ e => by omega), ((hL2.drew).trans (Lets.of_below hb6)).next hl8 (fun i hi hx => by omega)⟩
set_option maxHeartbeats 40000000 in
set_option maxRecDepth 100000 in
theorem m_stretches {m : Mb} {A : Ma} {pa : Option Addr} {pc wp mb : Nat} {W0 : World} (hv : validM m = true) (hO : Opened W0 wp m A pa pc mb) (i : Nat) (hi : i < m.herds.length) (w : World) (hW : Way W0 mb m w) :
    Calls Tryz.prog 51 #[.pointer (some ⟨wp, 0, none⟩), .int .i64 (i : Int)] w (GivesW W0 mb m (spv (joinL ((toldL m (everyN m)).map fun L => stretS m L i))) w) := by
  have hmf := hmf_mob
  have hmb := hO.mb_lt
  have hsz := hW.2.size
  have hE5 := everyN_lt hv
  obtain ⟨W4, hW4⟩ : ∃ W4, W4 = (((w.alloc (.cells #[.pointer (some ⟨wp, 0, none⟩)] 51)).alloc (.cells #[.int .i64 (i : Int)] 3)).alloc (.cells #[.int .i64 0, .int .i64 0] 31)).alloc (.cells #[.func (.func 86) #[] #[]] 125) := ⟨_, rfl⟩
  have hB4 : Below w.heap.size w W4 := by rw [hW4]; (repeat (first | assumption | exact Below.refl _ _ | refine Below.drew ?_ | refine Below.alloc ?_ (by first | omega | (simp; done) | (simp; omega)) _ | refine Below.setCell ?_ (by first | omega | (simp; done) | (simp; omega)) _ | refine Below.trans ?_ (Below.mono (by assumption) (by first | omega | (simp; done) | (simp; omega)))))
  have b0 : Blk W4 w.heap.size #[.pointer (some ⟨wp, 0, none⟩)] 51 := by rw [hW4]; exact (((Blk.new _ _ _).alloc _).alloc _).alloc _
  have b1 : Blk W4 (w.heap.size + 1) #[.int .i64 (i : Int)] 3 := by rw [hW4]; exact ((Blk.new' _ _ _ _ (by simp)).alloc _).alloc _
  have b2 : Blk W4 (w.heap.size + 2) #[.int .i64 0, .int .i64 0] 31 := by rw [hW4]; exact (Blk.new' _ _ _ _ (by simp)).alloc _
  have b3 : Blk W4 (w.heap.size + 3) #[.func (.func 86) #[] #[]] 125 := by rw [hW4]; exact Blk.new' _ _ _ _ (by simp)
  have hs4 : W4.heap.size = w.heap.size + 4 := by rw [hW4]; simp
  have hWy4 := hW.below hB4 hmb
  have HE := Lib.hid (m_everyW hv hO W4.drew hWy4.drew)
  have HT := Lib.hid (fun W => m_told wp (everyN m) W)
  have HH : Hid (∀ w9, Below W4.drew.heap.size W4.drew w9 → w9.heap.size = W4.heap.size + 2 → ToldAt w9 W4.heap.size wp (everyN m) → Calls Tryz.prog 29 #[toldF W4.heap.size, .agg #[.func (.func 87) #[] #[.pointer (some ⟨w.heap.size + 3, 0, none⟩), .pointer (some ⟨w.heap.size, 0, none⟩), .pointer (some ⟨w.heap.size + 1, 0, none⟩)]]] w9 (GivesW W0 mb m (spv (joinL ((toldL m (everyN m)).map fun L => stretS m L i))) w9)) := fun w9 hb9 hs9 hT9 => by
    refine m_hull hv hO (everyN m) (by omega) W4.heap.size w9 (hWy4.drew.below hb9 hmb) hT9 (by omega) 87 _ (fun L => stretS m L i)
      (fun W => Blk W (w.heap.size + 3) #[.func (.func 86) #[] #[]] 125 ∧ Blk W w.heap.size #[.pointer (some ⟨wp, 0, none⟩)] 51 ∧ Blk W (w.heap.size + 1) #[.int .i64 (i : Int)] 3)
      ⟨b3.drew.below hb9 (by simp; omega), b0.drew.below hb9 (by simp; omega), b1.drew.below hb9 (by simp; omega)⟩
      (fun X Y h hl => ⟨hl.blk h.1 (by omega), hl.blk h.2.1 (by omega), hl.blk h.2.2 (by omega)⟩)
      (fun args W => Tryz.call87 args W)
      (fun L hL W hw hc => m_stretches1 hv hO (List.mem_filter.1 hL).1 i hi _ _ _ W hw hc.1 hc.2.1 hc.2.2)
  have r0 := b0.cell
  have hLw : Lets (fun k _ => k = mb) w W4 := Lets.of_below hB4
  generalize hJ : (joinL ((toldL m (everyN m)).map fun L => stretS m L i)) = J at *
  have HJ := Lib.hid hJ
  clear hJ
  generalize hEv : everyN m = E at *
  have HEv := Lib.hid hEv
  clear hEv b0 b1 b3
  obtain ⟨j1, j2⟩ := J
  have hs4a : W4.heap.size ≤ w.heap.size + 4 ∧ w.heap.size + 4 ≤ W4.heap.size := by omega
  clear hs4
  go_enter Tryz.func51, Tryz.ntmps51
  go_upto_region 2 with fail
  rw [← hW4]
  clear hW4
  go_wp2_with fail
  refine Ord.wp_regionN [(0, 0), (1, 0), (2, 0), (4, 1), (5, 1), (3, 2), (6, 2), (7, 2)] (fun _ => True) (by kernel_rfl) (by kernel_rfl) trivial ?_
  go_wp2_with (first
    | (go_at_call 30; refine (HT.out _).mono ?_; rintro e w9 ⟨rfl, hT9, hb9, hs9⟩; have hHH := Lib.hid (HH.out w9 hb9 hs9 hT9); clear hs9)
    | (go_at_call 29; refine hHH.out.mono ?_; rintro e wa ⟨rfl, hWa, hla⟩; have b2a := hla.blk (b2.drew.below hb9 b2.lt) (by omega))
    | (refine wpList_store_blk 31 (.tmp 4) (.tmp 12) agg_span rfl rfl rfl rfl b2a rfl rfl (by simp [Value.oneCell']) ?_; intro wc hc)
    | ((with_reducible refine Ord.at_wild ?_); refine Ord.walk_wild_as rfl (.func (.func 87) #[] #[.pointer (some ⟨w.heap.size + 3, 0, none⟩), .pointer (some ⟨w.heap.size, 0, none⟩), .pointer (some ⟨w.heap.size + 1, 0, none⟩)]) ?_ ?_; (focus (intro W hW; simp [go_sem, Ord.yields, Ord.yieldUpon, hmf]; done)); intro K hK)
    | ((with_reducible refine Ord.at_wild ?_); refine Ord.walk_wild_as rfl (.agg #[.func (.func 87) #[] #[.pointer (some ⟨w.heap.size + 3, 0, none⟩), .pointer (some ⟨w.heap.size, 0, none⟩), .pointer (some ⟨w.heap.size + 1, 0, none⟩)]]) ?_ ?_; (focus (intro W hW; simp [go_sem, Ord.yields, Ord.yieldUpon, ]; done)); intro K hK)
    | (with_reducible refine Ord.at_nm ?_)
    | ((with_reducible refine Ord.at_calm ?_); refine Ord.calm_skip rfl ?_ (fun K hK => ?_); (focus (simp [Region.wanted, yielded]; done))) | with_reducible refine Ord.walk_calm rfl rfl (fun K hK => ?_) | ((with_reducible refine Ord.at_wild ?_); refine Ord.wild_fieldAddr rfl rfl (fun W => by simp [go_sem]; rfl) (fun K hK => ?_)) | ((with_reducible refine Ord.at_wild ?_); refine Ord.wild_move rfl rfl (fun K hK => ?_)) | ((with_reducible refine Ord.at_wild ?_); refine Ord.wild_nilCheck rfl rfl (fun K hK => ?_)) | with_reducible refine Ord.walk_eff rfl (by first | (simp; done) | assumption | (go_simp; done) | (repeat (first | assumption | exact Below.refl _ _ | refine Below.drew ?_ | refine Below.alloc ?_ (by first | omega | (simp; done) | (simp; omega)) _ | refine Below.setCell ?_ (by first | omega | (simp; done) | (simp; omega)) _ | refine Below.trans ?_ (Below.mono (by assumption) (by first | omega | (simp; done) | (simp; omega)))))) (fun K hK => ?_) | with_reducible refine Ord.at_fork ?_ ?_ | with_reducible refine Ord.walk_nil ?_ | (with_reducible refine Ord.next_of (by first | (simp; done) | (go_simp; done) | (repeat (first | assumption | exact Below.refl _ _ | refine Below.drew ?_ | refine Below.alloc ?_ (by first | omega | (simp; done) | (simp; omega)) _ | refine Below.setCell ?_ (by first | omega | (simp; done) | (simp; omega)) _ | refine Below.trans ?_ (Below.mono (by assumption) (by first | omega | (simp; done) | (simp; omega)))))) (fun _ => ?_))
    | ((with_reducible refine Ord.at_calm ?_); refine Ord.calm_call rfl (fun W => Tryz.call31 _ W) (HE.out) (fun K hK => ?_)) | ((with_reducible refine Ord.at_wild ?_); refine Ord.wild_call rfl (fun W => Tryz.call31 _ W) (fun W hW => HE.out) (fun K hK => ?_)))
  (try simp only [Exit.inBlock, Exit.then])
  have hlc : Lets (fun k _ => k = w.heap.size + 2) wa wc := (Lets.refl _ _).rowed hc rfl
  refine bodyPost_ret (v := spv (j1, j2)) (results_cell_blk rfl _ agg_span rfl hc.blk rfl) rfl ⟨rfl, hWa.lets hlc hmb (fun _ _ e => by omega), (((hLw.drew).trans (Lets.of_below hb9)).trans hla).next hlc (fun i hi hx => by omega)⟩
end Go.Proofs.YteeinehpneppnaaGreat
