/- Parts of a proof: KnownC. -/
import Derived.Test.YtjbjmoghloabpaaM45
import Derived.Test.YtjbjmoghloabpaaM39
/- BeanKnown's closure: how many truths there are, if a voter's bean is known. -/
set_option linter.unusedVariables false
set_option linter.unusedSimpArgs false
namespace Go.Proofs.Ytjbjmoghloabpaa
open Go.RowKit Go.Proofs
attribute [local irreducible] Ord.walk
set_option maxHeartbeats 4000000 in
set_option maxRecDepth 100000 in
theorem l_known1 (b : Bn) (ga : Option Addr) (gc : Nat) (pa : Option Addr) (pc : Nat) (v p q : Nat) (lo : Int) (on : Nat) (w : World) (bb : Blk w p #[.int .i64 b.V, .int .i64 b.nd, .int .i64 b.lo, .int .i64 b.hi, .slice ga b.gs.length gc, .slice pa b.ps.length pc] 27)
    (hq : w.cell? ⟨q, 0, none⟩ = some (.int .i64 v)) (hg : GsAt w ga b.gs) (hp : PsAt w pa b.ps) (hv : valid b = true) (hlen : b.gs.length < 4) (hvV : (v : Int) < b.V) (hlo : lo = 0 ∨ lo = 1) (hc : countR (withV b v lo) = ((on : Int), 0)) :
    Calls Try.prog 40 #[.int .i64 lo, .pointer (some ⟨p, 0, none⟩), .pointer (some ⟨q, 0, none⟩)] w (Gives2 (.int .i64 on) (.bool true) w) := by
  have G := Lib.hid l_group
  have hV := valid_V hv
  have hsrc := hg.src gc
  have hln := valid_len hv
  have HC : Hid (∀ g' c' W, GsAt W g' (withV b v lo).gs → PsAt W pa b.ps → Calls Try.prog 24 #[bv (withV b v lo) g' c' pa pc] W (Gives2 (.int .i64 on) (.int .i64 0) W)) := fun g' c' W h1 h2 => by
    have := bb_Count (withV b v lo) g' c' pa pc W h1 h2 (by simp [withV]; omega) (by show b.ps.length ≤ 40; omega); rwa [hc] at this
  obtain ⟨i0, hi0, hz0, hz1, hz2⟩ := info_parts Try.info49
  have hpow : IntKind.i64.wrap ((2 : Int) ^ v) = (2 : Int) ^ v := by
    have e1 : ((2 : Int) ^ v) = ((2 ^ v : Nat) : Int) := by simp
    have h8 := Nat.pow_le_pow_right (show 0 < 2 by omega) (show v ≤ 8 by omega)
    have e : (2 : Nat) ^ 8 = 256 := rfl
    have h9 : 2 ^ v ≤ 256 := by omega
    rw [e1]
    clear e1 h8
    generalize 2 ^ v = x at *
    exact Lib.wrap_i64_small _ (by omega)
  have hpl := bb.lt
  have hql := World.block_lt_of_cell? w _ hq
  simp only at hql
  clear hc hv
  go_enter Try.func40, Try.ntmps40
  go_wp2_with (first
    | (refine wpList_load_blk 27 (.tmp 1) agg_bean rfl rfl rfl bb rfl ?_)
    | (refine wpList_store_blk 27 (.tmp 6) (.tmp 9) agg_bean rfl rfl rfl rfl (Blk.new _ _ _) rfl rfl (by simp [Value.oneCell']) ?_; intro w2 h2; refine at_stop ?_))
  unfold Stop
  have b6 := h2.blk
  have hb2 : Below w.heap.size w w2 := h2.below ((Below.refl _ _).alloc (Nat.le_refl _) _) (Nat.le_refl _)
  have bb2 := bb.below hb2 bb.lt
  have hq2 := cell_later hb2 hq
  have hg2 := hg.below hb2
  have hs2 : w.heap.size < w2.heap.size := b6.lt
  clear h2
  generalize hp6 : w.heap.size = p6 at *
  have HP6 := Lib.hid hp6
  clear hp6
  have H2 : HT p 4 q (.slice ga b.gs.length gc) (.int .i64 v) w2 := ⟨by rw [bb2.cell]; simp, hq2⟩
  go_wp2_with fail
  refine Ord.wp_region [(1, 1), (2, 1), (4, 1), (5, 1), (6, 1), (7, 1), (0, 2), (3, 2), (8, 2), (9, 2), (10, 2), (11, 0), (12, 2)] (HT p 4 q (.slice ga b.gs.length gc) (.int .i64 v)) (by kernel_rfl) (by kernel_rfl) (fun c a d v w h => by cases d <;> exact h) H2.drew ?_
  go_wp2_with (first
    | (at_builtin; refine at_stop ?_)
    | ((with_reducible refine Ord.at_wild ?_); refine Ord.wild_load (ad := ⟨p, 4, none⟩) (.slice ga b.gs.length gc) rfl rfl ?_ ?_; (focus (intro W hW; simp [go_sem, hW.1]; done)); intro K hK)
    | ((with_reducible refine Ord.at_wild ?_); refine Ord.wild_load (ad := ⟨q, 0, none⟩) (.int .i64 v) rfl rfl ?_ ?_; (focus (intro W hW; simp [go_sem, hW.2]; done)); intro K hK)
    | ((with_reducible refine Ord.walk_eff rfl ?_ (fun K hK => ?_)); (focus (first | exact H2.drew | exact H2 | exact H2.drew.alloc _)))
    | ((with_reducible refine Ord.next_of ?_ (fun hOF => ?_)); (focus (first | exact H2.drew | exact H2 | exact H2.drew.alloc _)))
    | ((with_reducible refine Ord.at_wild ?_); refine Ord.wild_binOp (.int .i64 ((2 : Int) ^ v)) rfl (fun W => by simp [go_sem, hpow]; done) (fun K hK => ?_))
    | ((with_reducible refine Ord.at_wild ?_); refine Ord.wild_move (v := .int .i64 lo) rfl rfl (fun K hK => ?_))
    | ((with_reducible refine Ord.at_calm ?_); refine Ord.calm_skip rfl ?_ (fun K hK => ?_); (focus (simp [Region.wanted, yielded]; done))) | with_reducible refine Ord.walk_calm rfl rfl (fun K hK => ?_) | ((with_reducible refine Ord.at_wild ?_); refine Ord.wild_fieldAddr rfl rfl (fun W => by simp [go_sem]; rfl) (fun K hK => ?_)) | ((with_reducible refine Ord.at_wild ?_); refine Ord.wild_move rfl rfl (fun K hK => ?_)) | ((with_reducible refine Ord.at_wild ?_); refine Ord.wild_nilCheck rfl rfl (fun K hK => ?_)) | with_reducible refine Ord.walk_eff rfl (by first | (simp; done) | assumption | (go_simp; done) | (repeat (first | assumption | exact Below.refl _ _ | refine Below.drew ?_ | refine Below.alloc ?_ (by first | omega | (simp; done) | (simp; omega)) _ | refine Below.setCell ?_ (by first | omega | (simp; done) | (simp; omega)) _ | refine Below.trans ?_ (Below.mono (by assumption) (by first | omega | (simp; done) | (simp; omega)))))) (fun K hK => ?_) | with_reducible refine Ord.at_fork ?_ ?_ | with_reducible refine Ord.walk_nil ?_ | (with_reducible refine Ord.next_of (by first | (simp; done) | (go_simp; done) | (repeat (first | assumption | exact Below.refl _ _ | refine Below.drew ?_ | refine Below.alloc ?_ (by first | omega | (simp; done) | (simp; omega)) _ | refine Below.setCell ?_ (by first | omega | (simp; done) | (simp; omega)) _ | refine Below.trans ?_ (Below.mono (by assumption) (by first | omega | (simp; done) | (simp; omega)))))) (fun _ => ?_)))
  unfold Stop
  have hown0 : (w2.alloc (Obj.cells #[] 49)).drew.ownsRow p6 49 3 (.slice (some ⟨w2.heap.size, 0, none⟩) 0 0) 0 [] := World.ownsRow_made w2 #[] 0 (by omega) (by decide) rfl
  have H3 : HT p 4 q (.slice ga b.gs.length gc) (.int .i64 v) (w2.alloc (Obj.cells #[] 49)).drew := (H2.alloc _).drew
  have hB3 : Below w2.heap.size w2 (w2.alloc (Obj.cells #[] 49)).drew := ((Below.refl _ _).alloc (Nat.le_refl _) _).drew
  have b63 := b6.below hB3 b6.lt
  have hs3 := hB3.size
  have hg3 := hg2.below hB3
  have hsrc3 := hg3.src gc
  have hn2 : ¬ (Value.slice (some ⟨w2.heap.size, 0, none⟩) 0 0).ownBlock = some p6 := by simp [Value.ownBlock]; omega
  have ho2 : (Value.slice (some ⟨w2.heap.size, 0, none⟩) 0 0).ownBlock = some w2.heap.size := rfl
  generalize (Value.slice (some ⟨w2.heap.size, 0, none⟩) 0 0) = s0 at *
  generalize hw3 : (w2.alloc (Obj.cells #[] 49)).drew = w3 at *
  refine wpList_append_src rfl (.tmp 10) (.tmp 12) 24 rfl p6 49 i0 (.agg #[.int .i64 0, .int .i64 0, .int .i64 0]) 3 24 Try.underlying24 hi0 hz0 hz1 hz2 rfl (by decide) s0 0 [] rfl hown0 (.slice ga b.gs.length gc) b.gs.length (b.gs.flatMap gcell) rfl hsrc3 (gcell_one _) (by unfold maxLen; omega) (by omega) (by omega) ?_
  intro v4 w4 hown4 hgrow4
  simp only [Nat.zero_add, List.nil_append] at hown4
  have b64 : Blk w4 p6 _ _ := (hgrow4.block p6 (by omega) (fun e => hn2 e.symm)).trans b63
  have H4 : HT p 4 q (.slice ga b.gs.length gc) (.int .i64 v) w4 := ⟨hgrow4.cell H3.1 (by rw [ho2]; simp; omega), hgrow4.cell H3.2 (by rw [ho2]; simp; omega)⟩
  have hB4 : Below p6 w w4 := (hb2.trans (hB3.mono (by omega))).grown hgrow4 (by omega) (fun j e => by rw [ho2] at e; simp only [Option.some.injEq] at e; omega)
  have hs4 : p6 < w4.heap.size := b64.lt
  clear hgrow4 hown0 hsrc3 hg3 hB3 H3 hw3 hn2 ho2 b63 hs3 H2 hq2 hg2 hb2 bb2 b6 hs2
  go_wp2_with (first
    | (at_builtin; refine at_stop ?_)
    | (go_at_call 41; refine (G.out _ _ _ _).mono ?_; rintro e w5 ⟨rfl, hb5⟩; refine at_stop ?_)
    | ((with_reducible refine Ord.walk_eff rfl ?_ (fun K hK => ?_)); (focus (first | exact H4 | exact H4.alloc _)))
    | ((with_reducible refine Ord.next_of ?_ (fun hOF => ?_)); (focus (first | exact H4 | exact H4.alloc _)))
    | ((with_reducible refine Ord.at_calm ?_); refine Ord.calm_skip rfl ?_ (fun K hK => ?_); (focus (simp [Region.wanted, yielded]; done))) | with_reducible refine Ord.walk_calm rfl rfl (fun K hK => ?_) | ((with_reducible refine Ord.at_wild ?_); refine Ord.wild_fieldAddr rfl rfl (fun W => by simp [go_sem]; rfl) (fun K hK => ?_)) | ((with_reducible refine Ord.at_wild ?_); refine Ord.wild_move rfl rfl (fun K hK => ?_)) | ((with_reducible refine Ord.at_wild ?_); refine Ord.wild_nilCheck rfl rfl (fun K hK => ?_)) | with_reducible refine Ord.walk_eff rfl (by first | (simp; done) | assumption | (go_simp; done) | (repeat (first | assumption | exact Below.refl _ _ | refine Below.drew ?_ | refine Below.alloc ?_ (by first | omega | (simp; done) | (simp; omega)) _ | refine Below.setCell ?_ (by first | omega | (simp; done) | (simp; omega)) _ | refine Below.trans ?_ (Below.mono (by assumption) (by first | omega | (simp; done) | (simp; omega)))))) (fun K hK => ?_) | with_reducible refine Ord.at_fork ?_ ?_ | with_reducible refine Ord.walk_nil ?_ | (with_reducible refine Ord.next_of (by first | (simp; done) | (go_simp; done) | (repeat (first | assumption | exact Below.refl _ _ | refine Below.drew ?_ | refine Below.alloc ?_ (by first | omega | (simp; done) | (simp; omega)) _ | refine Below.setCell ?_ (by first | omega | (simp; done) | (simp; omega)) _ | refine Below.trans ?_ (Below.mono (by assumption) (by first | omega | (simp; done) | (simp; omega)))))) (fun _ => ?_)))
  unfold Stop
  have H5 := H4.below hb5
  have hown5 := ownsRow_below hown4 hb5
  have b65 := b64.below hb5 b64.lt
  have hs5 := hb5.size
  have hB5 : Below p6 w w5 := hB4.trans (hb5.mono (by omega))
  clear hb5 hown4 b64 H4 hB4
  go_wp2_with (first
    | (at_builtin; refine at_stop ?_)
    | ((with_reducible refine Ord.walk_eff rfl ?_ (fun K hK => ?_)); (focus (first | exact H5 | exact H5.alloc _)))
    | ((with_reducible refine Ord.next_of ?_ (fun hOF => ?_)); (focus (first | exact H5 | exact H5.alloc _)))
    | ((with_reducible refine Ord.at_calm ?_); refine Ord.calm_skip rfl ?_ (fun K hK => ?_); (focus (simp [Region.wanted, yielded]; done))) | with_reducible refine Ord.walk_calm rfl rfl (fun K hK => ?_) | ((with_reducible refine Ord.at_wild ?_); refine Ord.wild_fieldAddr rfl rfl (fun W => by simp [go_sem]; rfl) (fun K hK => ?_)) | ((with_reducible refine Ord.at_wild ?_); refine Ord.wild_move rfl rfl (fun K hK => ?_)) | ((with_reducible refine Ord.at_wild ?_); refine Ord.wild_nilCheck rfl rfl (fun K hK => ?_)) | with_reducible refine Ord.walk_eff rfl (by first | (simp; done) | assumption | (go_simp; done) | (repeat (first | assumption | exact Below.refl _ _ | refine Below.drew ?_ | refine Below.alloc ?_ (by first | omega | (simp; done) | (simp; omega)) _ | refine Below.setCell ?_ (by first | omega | (simp; done) | (simp; omega)) _ | refine Below.trans ?_ (Below.mono (by assumption) (by first | omega | (simp; done) | (simp; omega)))))) (fun K hK => ?_) | with_reducible refine Ord.at_fork ?_ ?_ | with_reducible refine Ord.walk_nil ?_ | (with_reducible refine Ord.next_of (by first | (simp; done) | (go_simp; done) | (repeat (first | assumption | exact Below.refl _ _ | refine Below.drew ?_ | refine Below.alloc ?_ (by first | omega | (simp; done) | (simp; omega)) _ | refine Below.setCell ?_ (by first | omega | (simp; done) | (simp; omega)) _ | refine Below.trans ?_ (Below.mono (by assumption) (by first | omega | (simp; done) | (simp; omega)))))) (fun _ => ?_)))
  unfold Stop
  refine wpList_append_own _ rfl (.tmp 13) (.tmp 19) 24 rfl p6 49 i0 (.agg #[.int .i64 0, .int .i64 0, .int .i64 0]) 3 24 Try.underlying24 hi0 hz0 hz1 hz2 rfl (by decide) v4 b.gs.length (b.gs.flatMap gcell) rfl (World.ownsRow.alloc hown5 _) ⟨w5.heap.size, 0, none⟩ 1 1 (gcell ((2 : Int) ^ v, lo, lo)) rfl rfl (news_blk (A := #[.int .i64 ((2 : Int) ^ v), .int .i64 lo, .int .i64 lo]) (Blk.new _ _ _)) (by simp [gcell, Value.oneCell']) (by unfold maxLen; omega) (by omega) (by simp; omega) ?_
  intro v6 w6 hown6 hgrow6 _
  have hv4 : ∀ j, v4.ownBlock = some j → p6 ≤ j := fun j e => (hown5.lt j e).1
  have hv46 : v4.ownBlock ≠ some p6 := own_ne_blk hown5 b65 (by decide)
  have b66 : Blk w6 p6 _ _ := (hgrow6.block p6 (by simp; omega) (fun e => hv46 e.symm)).trans (b65.alloc _)
  have H6 : HT p 4 q (.slice ga b.gs.length gc) (.int .i64 v) w6 := ⟨hgrow6.cell (H5.alloc _).1 (fun e => by have := hv4 p e.symm; omega), hgrow6.cell (H5.alloc _).2 (fun e => by have := hv4 q e.symm; omega)⟩
  have hB6 : Below p6 w w6 := (hB5.alloc (by omega) _).grown hgrow6 (by simp; omega) hv4
  have hs6 : p6 < w6.heap.size := b66.lt
  obtain ⟨g6, q6, rfl⟩ := own_slice hown6 (by omega)
  have hlt6 := hown6.lt g6 rfl
  have c6 : w6.cell? ⟨p6, 4, none⟩ = some (.slice ga b.gs.length gc) := by rw [b66.cell]; simp
  have f6 : w6.frozen? ⟨p6, 4, none⟩ = false := b66.free 4
  have b7 : Blk (w6.setCell ⟨p6, 4, none⟩ (.slice (some ⟨g6, 0, none⟩) (b.gs.length + 1) q6)) p6 #[.int .i64 b.V, .int .i64 b.nd, .int .i64 b.lo, .int .i64 b.hi, .slice (some ⟨g6, 0, none⟩) (b.gs.length + 1) q6, .slice pa b.ps.length pc] 27 := b66.set 4 _
  have hown7 := own_store hown6 (Nat.le_refl _) b66 (by decide) (fun j hj => Below.heap_setCell w6 ⟨p6, 4, none⟩ (.slice (some ⟨g6, 0, none⟩) (b.gs.length + 1) q6) j hj)
  have hB7 : Below p6 w (w6.setCell ⟨p6, 4, none⟩ (.slice (some ⟨g6, 0, none⟩) (b.gs.length + 1) q6)) := hB6.setCell (by show p6 ≤ p6; omega) _
  have hb67 : Below p6 w6 (w6.setCell ⟨p6, 4, none⟩ (.slice (some ⟨g6, 0, none⟩) (b.gs.length + 1) q6)) := (Below.refl _ _).setCell (by show p6 ≤ p6; omega) _
  have H7 : HT p 4 q (.slice ga b.gs.length gc) (.int .i64 v) (w6.setCell ⟨p6, 4, none⟩ (.slice (some ⟨g6, 0, none⟩) (b.gs.length + 1) q6)) := ⟨(hb67.cell (p := ⟨p, 4, none⟩) hpl).trans H6.1, (hb67.cell (p := ⟨q, 0, none⟩) hql).trans H6.2⟩
  clear hgrow6 hown6 hown5 b65 H5 hB5 hB6 b66
  have hown8 : OwnG (w6.setCell ⟨p6, 4, none⟩ (.slice (some ⟨g6, 0, none⟩) (b.gs.length + 1) q6)) p6 (.slice (some ⟨g6, 0, none⟩) (b.gs.length + 1) q6) (withV b v lo).gs := by
    unfold OwnG
    show World.ownsRow _ _ _ _ _ (b.gs ++ [(((2 ^ v : Nat) : Int), lo, lo)]).length ((b.gs ++ [(((2 ^ v : Nat) : Int), lo, lo)]).flatMap gcell)
    rw [List.length_append, List.flatMap_append, show ((2 ^ v : Nat) : Int) = (2 : Int) ^ v by simp]
    simpa using hown7
  obtain ⟨ga8, gc8, hev, hg8⟩ := hown8.at
  injection hev with e1 e2 e3
  subst e1 e3
  have hp8 := hp.below (by rw [HP6.out]; exact hB7)
  have hCt := HC.out _ q6 _ hg8 hp8
  clear hown7 hown8 HC
  unfold bv at hCt
  rw [← e2] at hCt
  simp only [withV] at hCt
  clear e2
  go_wp2_with (first
    | ((with_reducible refine Ord.walk_eff rfl ?_ (fun K hK => ?_)); (focus (first | exact H6 | exact H7)))
    | ((with_reducible refine Ord.next_of ?_ (fun hOF => ?_)); (focus (first | exact H6 | exact H7)))
    | (refine wpList_load_blk 27 (.tmp 6) agg_bean rfl rfl rfl b7 rfl ?_)
    | (go_at_call 24; refine hCt.mono ?_; rintro e w8 ⟨rfl, hb8⟩)
    | ((with_reducible refine Ord.at_calm ?_); refine Ord.calm_skip rfl ?_ (fun K hK => ?_); (focus (simp [Region.wanted, yielded]; done))) | with_reducible refine Ord.walk_calm rfl rfl (fun K hK => ?_) | ((with_reducible refine Ord.at_wild ?_); refine Ord.wild_fieldAddr rfl rfl (fun W => by simp [go_sem]; rfl) (fun K hK => ?_)) | ((with_reducible refine Ord.at_wild ?_); refine Ord.wild_move rfl rfl (fun K hK => ?_)) | ((with_reducible refine Ord.at_wild ?_); refine Ord.wild_nilCheck rfl rfl (fun K hK => ?_)) | with_reducible refine Ord.walk_eff rfl (by first | (simp; done) | assumption | (go_simp; done) | (repeat (first | assumption | exact Below.refl _ _ | refine Below.drew ?_ | refine Below.alloc ?_ (by first | omega | (simp; done) | (simp; omega)) _ | refine Below.setCell ?_ (by first | omega | (simp; done) | (simp; omega)) _ | refine Below.trans ?_ (Below.mono (by assumption) (by first | omega | (simp; done) | (simp; omega)))))) (fun K hK => ?_) | with_reducible refine Ord.at_fork ?_ ?_ | with_reducible refine Ord.walk_nil ?_ | (with_reducible refine Ord.next_of (by first | (simp; done) | (go_simp; done) | (repeat (first | assumption | exact Below.refl _ _ | refine Below.drew ?_ | refine Below.alloc ?_ (by first | omega | (simp; done) | (simp; omega)) _ | refine Below.setCell ?_ (by first | omega | (simp; done) | (simp; omega)) _ | refine Below.trans ?_ (Below.mono (by assumption) (by first | omega | (simp; done) | (simp; omega)))))) (fun _ => ?_)))
  go_ret2
  exact ⟨rfl, by rw [HP6.out]; exact hB7.trans (hb8.mono (by have := hB7.size; rw [HP6.out] at this; exact this))⟩
end Go.Proofs.Ytjbjmoghloabpaa
