/- Parts of a proof: BnD, BnE. -/
import Derived.Test.YtjbjmoghloabpaaM05
import Derived.Deep.CutRange
/- Contracts of package bean: tied. -/
set_option linter.unusedVariables false
set_option linter.unusedSimpArgs false
namespace Go.Proofs.Ytjbjmoghloabpaa
open Go.RowKit Go.Proofs

def sameT (t : Ti) (A B : Nat) (s : Bool) : Bool := ((t A).2 == (t B).2) == s
def frT (t : Ti) (A B : Nat) : Nat := max (t A).1 (t B).1
def toT (t : Ti) (A B : Nat) : Nat := min (t A).1 (t B).1
def mergeTo (t : Ti) (fr too : Nat) (same : Bool) (k : Nat) : Ti := fun i => if i < k then (if (t i).1 = fr then (too, (t i).2 == same) else t i) else t i
def tiedT (t : Ti) (A B : Nat) (s : Bool) : Ti := if (t A).1 = (t B).1 then t else mergeTo t (frT t A B) (toT t A B) (sameT t A B s) 8
def tiedOk (t : Ti) (A B : Nat) (s : Bool) : Bool := if (t A).1 = (t B).1 then sameT t A B s else true

theorem agg_ties : AggTy Try.prog 118 16 := ⟨_, Try.underlying118, rfl, by kernel_rfl⟩
theorem ones_ties (t : Ti) : (tcells t).all (·.oneCell') = true := by simp [tcells, Value.oneCell']

theorem index_ties (t : Ti) (k : Nat) (h : k < 8) (w : World) : (Instr.index 118 (.agg (tcells t)) (.int .i64 k)).run Try.prog w = .ok (.agg #[.int .i64 (t k).1, .bool (t k).2]) w := by
  rcases (show k = 0 ∨ k = 1 ∨ k = 2 ∨ k = 3 ∨ k = 4 ∨ k = 5 ∨ k = 6 ∨ k = 7 by omega) with rfl | rfl | rfl | rfl | rfl | rfl | rfl | rfl <;> simp [Instr.index, go_sem, tcells, part, Try.underlying118]
theorem merge_succ (t : Ti) (fr too : Nat) (sm : Bool) (k : Nat) : mergeTo t fr too sm (k + 1) = if (t k).1 = fr then tupd (mergeTo t fr too sm k) k (too, (t k).2 == sm) else mergeTo t fr too sm k := by
  by_cases h : (t k).1 = fr
  · rw [if_pos h]; funext i; simp only [mergeTo, tupd]
    by_cases h1 : i = k
    · subst h1; rw [if_pos rfl, if_pos (Nat.lt_succ_self _), if_pos h]
    · rw [if_neg h1]
      by_cases h2 : i < k
      · rw [if_pos h2, if_pos (by omega)]
      · rw [if_neg h2, if_neg (by omega)]
  · rw [if_neg h]; funext i; simp only [mergeTo]
    by_cases h1 : i = k
    · subst h1; rw [if_pos (Nat.lt_succ_self _), if_neg h, if_neg (Nat.lt_irrefl _)]
    · by_cases h2 : i < k
      · rw [if_pos h2, if_pos (by omega)]
      · rw [if_neg h2, if_neg (by omega)]
set_option maxHeartbeats 4000000 in
set_option maxRecDepth 100000 in
theorem b_tied (t : Ti) (x y : Int) (A B : Nat) (hx : x = A) (hy : y = B) (hA : A < 8) (hB : B < 8) (ht : ∀ i, i < 8 → (t i).1 < 8) (s : Bool) (w : World) :
    Calls Try.prog 130 #[.agg (tcells t), .agg #[.int .i64 x, .int .i64 y, .bool s]] w (Gives2 (.agg (tcells (tiedT t A B s))) (.bool (tiedOk t A B s)) w) := by
  subst hx hy
  have hcA := tcells_to t A hA
  have hsA := tcells_same t A hA
  have hcB := tcells_to t B hB
  have hsB := tcells_same t B hB
  have hsz := tcells_size t
  have HT : Hid (tcells t = tcells t) := rfl
  have hAi : (A : Int) < 8 := by omega
  have hBi : (B : Int) < 8 := by omega
  generalize hTC : tcells t = TC at *
  have HTC := Lib.hid hTC
  clear hTC
  go_enter Try.func130, Try.ntmps130
  obtain ⟨W3, hW3⟩ : ∃ W3, W3 = ((w.alloc (.cells TC 118)).alloc (.cells #[.int .i64 A, .int .i64 B, .bool s] 54)).alloc (.cells (tcells (freeTo 0)) 118) := ⟨_, rfl⟩
  rw [freeTo_zero] at hW3
  have HW3 := Lib.hid hW3
  go_upto_region 1 with fail
  rw [← hW3]
  clear hW3
  have b0 : Blk W3 w.heap.size TC 118 := by rw [HW3.out]; exact ((Blk.new _ _ _).alloc _).alloc _
  have b1 : Blk W3 (w.heap.size + 1) #[.int .i64 A, .int .i64 B, .bool s] 54 := by rw [HW3.out]; exact (Blk.new' _ _ _ _ (by simp)).alloc _
  have b2 : Blk W3 (w.heap.size + 1 + 1) #[.int .i64 0, .bool false, .int .i64 0, .bool false, .int .i64 0, .bool false, .int .i64 0, .bool false, .int .i64 0, .bool false, .int .i64 0, .bool false, .int .i64 0, .bool false, .int .i64 0, .bool false] 118 := by rw [HW3.out]; exact Blk.new' _ _ _ _ (by simp)
  have hsz3 : W3.heap.size = w.heap.size + 3 := by rw [HW3.out]; simp
  have hb3 : Below w.heap.size w W3 := by rw [HW3.out]; (repeat (first | assumption | exact Below.refl _ _ | refine Below.drew ?_ | refine Below.alloc ?_ (by first | omega | (simp; done) | (simp; omega)) _ | refine Below.setCell ?_ (by first | omega | (simp; done) | (simp; omega)) _ | refine Below.trans ?_ (Below.mono (by assumption) (by first | omega | (simp; done) | (simp; omega)))))
  generalize hn : w.heap.size = n at *
  have k0 := b0.cell
  have k1 := b1.cell
  have k2 := b0.free
  have k3 := b1.free
  go_cut [6, 7] from 13 to 20 (fun p q wx => ∃ ba bb : Nat, p = .pointer (some ⟨ba, 0, none⟩) ∧ q = .pointer (some ⟨bb, 0, none⟩) ∧ n + 3 ≤ ba ∧ n + 3 ≤ bb ∧ n + 5 ≤ wx.heap.size ∧ Below (n + 3) W3 wx ∧ Blk wx ba #[.int .i64 (t A).1, .bool (t A).2] 116 ∧ Blk wx bb #[.int .i64 (t B).1, .bool (t B).2] 116)
  case first =>
    refine Ord.wp_fork [(0, 1), (1, 1), (2, 1), (3, 1), (4, 1), (5, 1), (6, 1), (7, 1)] 8 [(9, 2), (10, 2), (11, 2)] 9 [(8, 2), (10, 2), (11, 2)] (fun W => Below (n + 3) W3 W) (by kernel_rfl) (by kernel_rfl) (fun c a d v w h => by cases d <;> exact h) (Below.refl _ _).drew ?_
    go_wp2_with (first
      | ((with_reducible refine Ord.at_calm ?_); refine Ord.calm_skip rfl rfl (fun K hK => ?_)) | with_reducible refine Ord.walk_calm rfl rfl (fun K hK => ?_) | ((with_reducible refine Ord.at_wild ?_); refine Ord.wild_fieldAddr rfl rfl (fun W => by simp [go_sem]; rfl) (fun K hK => ?_)) | ((with_reducible refine Ord.at_wild ?_); refine Ord.wild_move rfl rfl (fun K hK => ?_)) | ((with_reducible refine Ord.at_wild ?_); refine Ord.wild_nilCheck rfl rfl (fun K hK => ?_)) | with_reducible refine Ord.walk_eff rfl (by first | (simp; done) | assumption | (go_simp; done) | (repeat (first | assumption | exact Below.refl _ _ | refine Below.drew ?_ | refine Below.alloc ?_ (by first | omega | (simp; done) | (simp; omega)) _ | refine Below.setCell ?_ (by first | omega | (simp; done) | (simp; omega)) _ | refine Below.trans ?_ (Below.mono (by assumption) (by first | omega | (simp; done) | (simp; omega)))))) (fun K hK => ?_) | with_reducible refine Ord.at_fork ?_ ?_ | with_reducible refine Ord.walk_nil ?_ | (with_reducible refine Ord.next_of (by first | (simp; done) | (go_simp; done) | (repeat (first | assumption | exact Below.refl _ _ | refine Below.drew ?_ | refine Below.alloc ?_ (by first | omega | (simp; done) | (simp; omega)) _ | refine Below.setCell ?_ (by first | omega | (simp; done) | (simp; omega)) _ | refine Below.trans ?_ (Below.mono (by assumption) (by first | omega | (simp; done) | (simp; omega)))))) (fun _ => ?_))
      | ((with_reducible refine Ord.at_wild ?_); refine Ord.wild_load (ad := ⟨n + 1, 0, none⟩) (.int .i64 A) rfl rfl ?_ ?_; (focus (intro W hW; obtain ⟨cW, _, zW⟩ := below_rules hW rfl; simp [go_sem, cW, ↓IntWalk.iteOmega, k1]; done)); intro K hK)
      | ((with_reducible refine Ord.at_wild ?_); refine Ord.wild_load (ad := ⟨n + 1, 1, none⟩) (.int .i64 B) rfl rfl ?_ ?_; (focus (intro W hW; obtain ⟨cW, _, zW⟩ := below_rules hW rfl; simp [go_sem, cW, ↓IntWalk.iteOmega, k1]; done)); intro K hK)
      | ((with_reducible refine Ord.at_wild ?_); refine Ord.wild_load (ad := ⟨n, A * 2, none⟩) (.agg #[.int .i64 (t A).1, .bool (t A).2]) rfl rfl ?_ ?_; (focus (intro W hW; obtain ⟨cW, _, zW⟩ := below_rules hW rfl; simp [go_sem, cW, ↓IntWalk.iteOmega, k0, hcA, hsA]; done)); intro K hK)
      | ((with_reducible refine Ord.at_wild ?_); refine Ord.wild_load (ad := ⟨n, B * 2, none⟩) (.agg #[.int .i64 (t B).1, .bool (t B).2]) rfl rfl ?_ ?_; (focus (intro W hW; obtain ⟨cW, _, zW⟩ := below_rules hW rfl; simp [go_sem, cW, ↓IntWalk.iteOmega, k0, hcB, hsB]; done)); intro K hK)
      | ((with_reducible refine Ord.at_wild ?_); refine Ord.wild_idx (.pointer (some ⟨n, A * 2, none⟩)) rfl ?_ ?_; (focus (intro W hW; simp [go_sem, hAi]; done)); intro K hK)
      | ((with_reducible refine Ord.at_wild ?_); refine Ord.wild_idx (.pointer (some ⟨n, B * 2, none⟩)) rfl ?_ ?_; (focus (intro W hW; simp [go_sem, hBi]; done)); intro K hK))
    all_goals go_meet
    all_goals (first
      | exact ⟨n + 3, n + 3 + 1, rfl, rfl, by omega, by omega, by simp [hsz3], by (repeat (first | assumption | exact Below.refl _ _ | refine Below.drew ?_ | refine Below.alloc ?_ (by first | omega | (simp; done) | (simp; omega)) _ | refine Below.setCell ?_ (by first | omega | (simp; done) | (simp; omega)) _ | refine Below.trans ?_ (Below.mono (by assumption) (by first | omega | (simp; done) | (simp; omega))))), ((Blk.new' _ _ _ _ hsz3).alloc _).drew, (Blk.new' _ _ _ _ (by simp [hsz3])).drew⟩
      | exact ⟨n + 3 + 1, n + 3, rfl, rfl, by omega, by omega, by simp [hsz3], by (repeat (first | assumption | exact Below.refl _ _ | refine Below.drew ?_ | refine Below.alloc ?_ (by first | omega | (simp; done) | (simp; omega)) _ | refine Below.setCell ?_ (by first | omega | (simp; done) | (simp; omega)) _ | refine Below.trans ?_ (Below.mono (by assumption) (by first | omega | (simp; done) | (simp; omega))))), (Blk.new' _ _ _ _ (by simp [hsz3])).drew, ((Blk.new' _ _ _ _ hsz3).alloc _).drew⟩)
  case rest =>
    obtain ⟨ba, bb, rfl, rfl, hba, hbb, hwc, hB, ca, cb⟩ := hcut
    replace b0 := b0.below hB (by omega)
    replace b1 := b1.below hB (by omega)
    replace b2 := b2.below hB (by omega)
    have hb0 : Below n w wc := hb3.trans (hB.mono (by omega))
    clear HW3 k0 k1 k2 k3 hB hb3 hsz3
    have r0 := b0.cell
    have r1 := b1.cell
    have r2 := b2.cell
    have r3 := b2.free
    have r4 := ca.cell
    have r5 := cb.cell
    have h16 := HTC.out.symm
    have hones : TC.all (·.oneCell') = true := by rw [← HTC.out]; exact ones_ties t
    by_cases hE : (t A).1 = (t B).1
    · have h1 : Hid (tiedT t A B s = t) := by show _ = _; simp [tiedT, hE]
      have h2 : Hid (tiedOk t A B s = sameT t A B s) := by show _ = _; simp [tiedOk, hE]
      have hEi : (((t A).1 : Int) == (t B).1) = true := by simp [hE]
      have H16 := Lib.hid h16
      clear h16 r0 r2 r3
      go_wp2_with (first
        | (refine wpList_load_blk 118 (.tmp 2) agg_ties rfl rfl rfl b0 hsz ?_)
        | (refine wpList_store_blk 118 (.tmp 4) (.tmp 34) agg_ties rfl rfl rfl rfl b2 rfl hsz hones ?_; intro w5 h5))
      (try simp only [Exit.inBlock, Exit.then])
      rw [h1.out, h2.out, ← H16.out]
      refine bodyPost_ret (v := .tuple #[.agg TC, .bool (sameT t A B s)]) ((results_cell_tmp rfl _ _ _).trans (by simp [asAddr, loadVar_blk agg_ties h5.blk hsz, sameT]; done)) rfl ⟨rfl, ?_⟩
      rw [hn]
      exact h5.below hb0 (by omega)
    · have h1 : Hid (tiedT t A B s = mergeTo t (frT t A B) (toT t A B) (sameT t A B s) 8) := by show _ = _; simp [tiedT, hE]
      have h2 : Hid (tiedOk t A B s = true) := by show _ = _; simp [tiedOk, hE]
      have hEi : (((t A).1 : Int) == (t B).1) = false := by simp; omega
      have hm0 : Blk wc n (tcells (mergeTo t (frT t A B) (toT t A B) (sameT t A B s) 0)) 118 := by
        have : mergeTo t (frT t A B) (toT t A B) (sameT t A B s) 0 = t := by funext i; simp [mergeTo]
        rw [this, ← h16]; exact b0
      have hS : (((t A).2 == (t B).2) == s) = sameT t A B s := rfl
      have hTA := ht A hA
      have hTB := ht B hB
      have hfr : frT t A B < 8 := by unfold frT; omega
      have hto : toT t A B < 8 := by unfold toT; omega
      have H16 := Lib.hid h16
      clear h16 r0 r2 r3
      go_upto_region 5 with fail
      go_cut [9, 10] from 36 to 45 (fun p q wx => p = .int .i64 (frT t A B) ∧ q = .int .i64 (toT t A B) ∧ wx = wc.drew)
      case first =>
        refine Ord.wp_region [(0, 0), (1, 0), (2, 0), (3, 0), (4, 0), (5, 0), (6, 0), (7, 0), (8, 0), (9, 0), (10, 0), (11, 0)] (fun _ => True) (by kernel_rfl) (by kernel_rfl) (fun c a d v w h => by cases d <;> exact h) trivial ?_
        go_wp2_with (first
          | ((with_reducible refine Ord.at_calm ?_); refine Ord.calm_skip rfl rfl (fun K hK => ?_)) | with_reducible refine Ord.walk_calm rfl rfl (fun K hK => ?_) | ((with_reducible refine Ord.at_wild ?_); refine Ord.wild_fieldAddr rfl rfl (fun W => by simp [go_sem]; rfl) (fun K hK => ?_)) | ((with_reducible refine Ord.at_wild ?_); refine Ord.wild_move rfl rfl (fun K hK => ?_)) | ((with_reducible refine Ord.at_wild ?_); refine Ord.wild_nilCheck rfl rfl (fun K hK => ?_)) | with_reducible refine Ord.walk_eff rfl (by first | (simp; done) | assumption | (go_simp; done) | (repeat (first | assumption | exact Below.refl _ _ | refine Below.drew ?_ | refine Below.alloc ?_ (by first | omega | (simp; done) | (simp; omega)) _ | refine Below.setCell ?_ (by first | omega | (simp; done) | (simp; omega)) _ | refine Below.trans ?_ (Below.mono (by assumption) (by first | omega | (simp; done) | (simp; omega)))))) (fun K hK => ?_) | with_reducible refine Ord.at_fork ?_ ?_ | with_reducible refine Ord.walk_nil ?_ | (with_reducible refine Ord.next_of (by first | (simp; done) | (go_simp; done) | (repeat (first | assumption | exact Below.refl _ _ | refine Below.drew ?_ | refine Below.alloc ?_ (by first | omega | (simp; done) | (simp; omega)) _ | refine Below.setCell ?_ (by first | omega | (simp; done) | (simp; omega)) _ | refine Below.trans ?_ (Below.mono (by assumption) (by first | omega | (simp; done) | (simp; omega)))))) (fun _ => ?_)))
        all_goals go_meet
        all_goals exact ⟨by simp [frT]; omega, by simp [toT]; omega, rfl⟩
      case rest =>
        obtain ⟨rfl, rfl, rfl⟩ := hcut
        generalize frT t A B = fr at *
        generalize toT t A B = too at *
        generalize sameT t A B s = sm at *
        go_wp2_with (first
          | (refine wpList_load_blk 118 (.tmp 2) agg_ties rfl rfl rfl b0.drew hsz ?_))
        go_loopw [47] (fun i wr => ∃ k : Nat, k ≤ 8 ∧ i = .int .i64 k ∧ Below n w wr ∧ n + 5 ≤ wr.heap.size ∧ Blk wr n (tcells (mergeTo t fr too sm k)) 118 ∧
          Blk wr (n + 1 + 1) #[.int .i64 0, .bool false, .int .i64 0, .bool false, .int .i64 0, .bool false, .int .i64 0, .bool false, .int .i64 0, .bool false, .int .i64 0, .bool false, .int .i64 0, .bool false, .int .i64 0, .bool false] 118) (fun i _ => 8 - (intOf i).toNat)
        case atStart => exact ⟨0, by omega, rfl, hb0.drew, hwc, hm0, b2⟩
        case round =>
          clear b0 b1 b2 ca cb r1 r4 r5 hm0 hb0
          obtain ⟨k, hk, rfl, hb0, hwc2, b0, b2⟩ := hrel
          by_cases hlt : k < 8
          · have hlti : (k : Int) < 8 := by omega
            have hc1 := tcells_to t k hlt
            have hc2 := tcells_same t k hlt
            have hd1 := tcells_to (mergeTo t fr too sm k) k hlt
            have hd2 := tcells_same (mergeTo t fr too sm k) k hlt
            have hs := Lib.hid (tcells_set (mergeTo t fr too sm k) k hlt too ((t k).2 == sm))
            have hstep := Lib.hid (merge_succ t fr too sm k)
            have hix := index_ties t k hlt
            rw [HTC.out] at hc1 hc2 hix
            generalize (t k).2 = ts at *
            generalize (t k).1 = tn at *
            generalize hMC : tcells (mergeTo t fr too sm k) = MC at *
            have HMC := Lib.hid hMC
            clear hMC
            have r0 := b0.cell
            have r1 := b0.free
            by_cases hf : tn = fr
            · have hst2 := hstep.out
              rw [if_pos hf] at hst2
              have HST := Lib.hid hst2
              clear hst2 hstep
              go_wp2
              refine ⟨⟨k + 1, by omega, by go_num, by (repeat (first | assumption | exact Below.refl _ _ | refine Below.drew ?_ | refine Below.alloc ?_ (by first | omega | (simp; done) | (simp; omega)) _ | refine Below.setCell ?_ (by first | omega | (simp; done) | (simp; omega)) _ | refine Below.trans ?_ (Below.mono (by assumption) (by first | omega | (simp; done) | (simp; omega))))), by simp; omega, ?_, ((b2.alloc _).other (by show n + 1 + 1 ≠ n; omega) _).other (by show n + 1 + 1 ≠ n; omega) _⟩, by simp [intOf]; omega⟩
              rw [HST.out, ← hs.out]
              exact ((b0.alloc _).set _ _).set _ _
            · have hst2 := hstep.out
              rw [if_neg hf] at hst2
              have HST := Lib.hid hst2
              clear hst2 hstep
              go_wp2
              refine ⟨⟨k + 1, by omega, by go_num, by (repeat (first | assumption | exact Below.refl _ _ | refine Below.drew ?_ | refine Below.alloc ?_ (by first | omega | (simp; done) | (simp; omega)) _ | refine Below.setCell ?_ (by first | omega | (simp; done) | (simp; omega)) _ | refine Below.trans ?_ (Below.mono (by assumption) (by first | omega | (simp; done) | (simp; omega))))), by simp; omega, ?_, b2.alloc _⟩, by simp [intOf]; omega⟩
              rw [HST.out, HMC.out]
              exact b0.alloc _
          · have hk8 : k = 8 := by omega
            subst hk8
            generalize hMC : tcells (mergeTo t fr too sm 8) = MC at *
            have hsz8 : MC.size = 16 := by rw [← hMC]; exact tcells_size _
            have hones8 : MC.all (·.oneCell') = true := by rw [← hMC]; exact ones_ties _
            have HMC := Lib.hid hMC
            clear hMC
            go_wp2_with (first
              | (refine wpList_load_blk 118 (.tmp 2) agg_ties rfl rfl rfl b0 hsz8 ?_)
              | (refine wpList_store_blk 118 (.tmp 4) (.tmp 64) agg_ties rfl rfl rfl rfl b2 rfl hsz8 hones8 ?_; intro w5 h5))
            (try simp only [Exit.inBlock, Exit.then])
            rw [h1.out, h2.out, HMC.out]
            refine bodyPost_ret (v := .tuple #[.agg MC, .bool true]) ((results_cell_tmp rfl _ _ _).trans (by simp [asAddr, loadVar_blk agg_ties h5.blk hsz8]; done)) rfl ⟨rfl, ?_⟩
            rw [hn]
            exact h5.below hb0 (by omega)
end Go.Proofs.Ytjbjmoghloabpaa
/- Contracts of package bean: what is known ties; states. -/
set_option linter.unusedVariables false
set_option linter.unusedSimpArgs false
namespace Go.Proofs.Ytjbjmoghloabpaa
open Go.RowKit Go.Proofs

theorem b_gties (t : Ti) (vo : Nat) (lo hi : Int) (w : World) :
    Calls Try.prog 128 #[.agg #[.int .u64 vo, .int .i64 lo, .int .i64 hi], .agg (tcells t)] w (Gives2 (.agg (tcells t)) (.bool true) w) := by
  have hsz := tcells_size t
  have hones := ones_ties t
  generalize tcells t = TC at *
  go_enter Try.func128, Try.ntmps128
  go_upto_region 1 with fail
  obtain ⟨W3, hW3⟩ : ∃ W3, W3 = ((w.alloc (.cells #[.int .u64 vo, .int .i64 lo, .int .i64 hi] 87)).alloc (.cells TC 118)).alloc (.cells (tcells (freeTo 0)) 118) := ⟨_, rfl⟩
  rw [freeTo_zero] at hW3
  have b1 : Blk W3 (w.heap.size + 1) TC 118 := by rw [hW3]; exact (Blk.new' _ _ _ _ (by simp)).alloc _
  have b2 : Blk W3 (w.heap.size + 1 + 1) #[.int .i64 0, .bool false, .int .i64 0, .bool false, .int .i64 0, .bool false, .int .i64 0, .bool false, .int .i64 0, .bool false, .int .i64 0, .bool false, .int .i64 0, .bool false, .int .i64 0, .bool false] 118 := by rw [hW3]; exact Blk.new' _ _ _ _ (by simp)
  have hb3 : Below w.heap.size w W3 := by rw [hW3]; (repeat (first | assumption | exact Below.refl _ _ | refine Below.drew ?_ | refine Below.alloc ?_ (by first | omega | (simp; done) | (simp; omega)) _ | refine Below.setCell ?_ (by first | omega | (simp; done) | (simp; omega)) _ | refine Below.trans ?_ (Below.mono (by assumption) (by first | omega | (simp; done) | (simp; omega)))))
  rw [← hW3]
  clear hW3
  go_wp2_with (first
    | (refine wpList_load_blk 118 (.tmp 3) agg_ties rfl rfl rfl b1 hsz ?_)
    | (refine wpList_store_blk 118 (.tmp 4) (.tmp 6) agg_ties rfl rfl rfl rfl b2 rfl hsz hones ?_; intro w5 h5))
  (try simp only [Exit.inBlock, Exit.then])
  refine bodyPost_ret (v := .tuple #[.agg TC, .bool true]) ((results_cell_tmp rfl _ _ _).trans (by simp [asAddr, loadVar_blk agg_ties h5.blk hsz]; done)) rfl ⟨rfl, ?_⟩
  exact h5.below hb3 (by omega)

theorem b_pties (t : Ti) (A B : Nat) (hA : A < 8) (hB : B < 8) (ht : ∀ i, i < 8 → (t i).1 < 8) (s : Bool) (w : World) :
    Calls Try.prog 129 #[.agg #[.int .u64 0, .int .i64 0, .int .i64 0, .int .i64 A, .int .i64 B, .bool s], .agg (tcells t)] w (Gives2 (.agg (tcells (tiedT t A B s))) (.bool (tiedOk t A B s)) w) := by
  have hsz := tcells_size t
  have hones := ones_ties (tiedT t A B s)
  have hsz2 := tcells_size (tiedT t A B s)
  have HT := Lib.hid (fun w => b_tied t A B A B rfl rfl hA hB ht s w)
  generalize tiedOk t A B s = ok at *
  generalize tcells (tiedT t A B s) = T2 at *
  generalize tcells t = TC at *
  go_enter Try.func129, Try.ntmps129
  go_upto_region 1 with fail
  obtain ⟨W3, hW3⟩ : ∃ W3, W3 = ((w.alloc (.cells #[.int .u64 0, .int .i64 0, .int .i64 0, .int .i64 A, .int .i64 B, .bool s] 89)).alloc (.cells TC 118)).alloc (.cells (tcells (freeTo 0)) 118) := ⟨_, rfl⟩
  rw [freeTo_zero] at hW3
  have b0 : Blk W3 w.heap.size #[.int .u64 0, .int .i64 0, .int .i64 0, .int .i64 A, .int .i64 B, .bool s] 89 := by rw [hW3]; exact ((Blk.new _ _ _).alloc _).alloc _
  have b1 : Blk W3 (w.heap.size + 1) TC 118 := by rw [hW3]; exact (Blk.new' _ _ _ _ (by simp)).alloc _
  have b2 : Blk W3 (w.heap.size + 1 + 1) #[.int .i64 0, .bool false, .int .i64 0, .bool false, .int .i64 0, .bool false, .int .i64 0, .bool false, .int .i64 0, .bool false, .int .i64 0, .bool false, .int .i64 0, .bool false, .int .i64 0, .bool false] 118 := by rw [hW3]; exact Blk.new' _ _ _ _ (by simp)
  have hb3 : Below w.heap.size w W3 := by rw [hW3]; (repeat (first | assumption | exact Below.refl _ _ | refine Below.drew ?_ | refine Below.alloc ?_ (by first | omega | (simp; done) | (simp; omega)) _ | refine Below.setCell ?_ (by first | omega | (simp; done) | (simp; omega)) _ | refine Below.trans ?_ (Below.mono (by assumption) (by first | omega | (simp; done) | (simp; omega)))))
  rw [← hW3]
  clear hW3
  have r0 := b0.cell
  have hlt := b2.lt
  go_wp2_with (first
    | (refine wpList_load_blk 118 (.tmp 3) agg_ties rfl rfl rfl b1 hsz ?_)
    | (go_at_call 130; refine (HT.out _).mono ?_; rintro e w4 ⟨rfl, hb4⟩; replace b2 := b2.below hb4 hlt)
    | (refine wpList_store_blk 118 (.tmp 4) (.tmp 10) agg_ties rfl rfl rfl rfl b2 rfl hsz2 hones ?_; intro w5 h5))
  (try simp only [Exit.inBlock, Exit.then])
  refine bodyPost_ret (v := .tuple #[.agg T2, .bool ok]) ((results_cell_tmp rfl _ _ _).trans (by simp [asAddr, loadVar_blk agg_ties h5.blk hsz2]; done)) rfl ⟨rfl, ?_⟩
  exact h5.below (hb3.trans (hb4.mono (by omega))) (by omega)

/-- How many white beans there are in all groups. -/
abbrev St := Nat → Nat
def scells (s : St) : Array Value := #[.int .i64 (s 0), .int .i64 (s 1), .int .i64 (s 2), .int .i64 (s 3), .int .i64 (s 4), .int .i64 (s 5), .int .i64 (s 6)]
theorem scells_size (s : St) : (scells s).size = 7 := rfl
theorem ones_st (s : St) : (scells s).all (·.oneCell') = true := by simp [scells, Value.oneCell']
theorem scells_at (s : St) (i : Nat) (h : i < 7) : (scells s)[i]? = some (.int .i64 (s i)) := by
  rcases (show i = 0 ∨ i = 1 ∨ i = 2 ∨ i = 3 ∨ i = 4 ∨ i = 5 ∨ i = 6 by omega) with rfl | rfl | rfl | rfl | rfl | rfl | rfl <;> rfl
def sadd (s : St) (i : Nat) : St := fun j => if j = i then s j + 1 else s j
theorem scells_set (s : St) (i : Nat) (h : i < 7) : (scells s).setIfInBounds i (.int .i64 (s i + 1)) = scells (sadd s i) := by
  rcases (show i = 0 ∨ i = 1 ∨ i = 2 ∨ i = 3 ∨ i = 4 ∨ i = 5 ∨ i = 6 by omega) with rfl | rfl | rfl | rfl | rfl | rfl | rfl <;> simp [scells, sadd]
theorem agg_st : AggTy Try.prog 126 7 := ⟨_, Try.underlying126, rfl, by kernel_rfl⟩
/-- Groups. -/
abbrev Gr := Nat × Int × Int
def GrAt (w : World) (ga : Option Addr) (gs : List Gr) : Prop :=
  ∀ i, (h : i < gs.length) → ∃ gb go, ga = some ⟨gb, go, none⟩ ∧ w.cell? ⟨gb, go + i * 3, none⟩ = some (.int .u64 gs[i].1) ∧
    w.cell? ⟨gb, go + i * 3 + 1, none⟩ = some (.int .i64 gs[i].2.1) ∧ w.cell? ⟨gb, go + i * 3 + 2, none⟩ = some (.int .i64 gs[i].2.2)
theorem GrAt.below {w w' : World} {ga : Option Addr} {gs : List Gr} (h : GrAt w ga gs) (hb : Below w.heap.size w w') : GrAt w' ga gs := fun i hi =>
  let ⟨gb, go, h0, h1, h2, h3⟩ := h i hi
  ⟨gb, go, h0, cell_later hb h1, cell_later hb h2, cell_later hb h3⟩
def inG (gs : List Gr) (v : Nat) (k : Nat) : Bool := match gs[k]? with | some g => hasB g.1 v | none => false
def withTo (gs : List Gr) (s : St) (v : Nat) (k : Nat) : St := fun j => if j < k ∧ inG gs v j = true then s j + 1 else s j
def withS (gs : List Gr) (s : St) (v : Nat) : St := withTo gs s v gs.length
theorem withTo_succ (gs : List Gr) (s : St) (v : Nat) (k : Nat) : withTo gs s v (k + 1) = if inG gs v k = true then sadd (withTo gs s v k) k else withTo gs s v k := by
  by_cases h : inG gs v k = true
  · rw [if_pos h]; funext j; simp only [withTo, sadd]
    by_cases h1 : j = k
    · subst h1; rw [if_pos ⟨Nat.lt_succ_self _, h⟩, if_pos rfl, if_neg (fun e => Nat.lt_irrefl _ e.1)]
    · rw [if_neg h1]
      by_cases h2 : j < k ∧ inG gs v j = true
      · rw [if_pos h2, if_pos ⟨by omega, h2.2⟩]
      · rw [if_neg h2, if_neg (fun e => h2 ⟨by omega, e.2⟩)]
  · rw [if_neg h]; funext j; simp only [withTo]
    by_cases h1 : j = k
    · subst h1; rw [if_neg (fun e => h e.2), if_neg (fun e => h e.2)]
    · by_cases h2 : j < k ∧ inG gs v j = true
      · rw [if_pos h2, if_pos ⟨by omega, h2.2⟩]
      · rw [if_neg h2, if_neg (fun e => h2 ⟨by omega, e.2⟩)]
theorem withTo_self (gs : List Gr) (s : St) (v k : Nat) : withTo gs s v k k = s k := by simp [withTo]

theorem bit_u64 (vo v : Nat) (h : vo < 2 ^ 62) : (bits .and .u64 ((vo : Int) / 2 ^ v) 1 == 1) = hasB vo v := by
  have h1 : ((vo : Int) / 2 ^ v) = ((vo / 2 ^ v : Nat) : Int) := by simp
  have h2 : vo / 2 ^ v ≤ vo := Nat.div_le_self _ _
  have h3 : (1 : Int) = ((1 : Nat) : Int) := rfl
  rw [h1]
  conv => lhs; arg 1; rw [h3]
  rw [u64_and_nat _ _ (by omega) (by omega), nat_mask1]
  unfold hasB
  rw [Bool.eq_iff_iff, beq_iff_eq, beq_iff_eq]
  omega

set_option maxHeartbeats 4000000 in
set_option maxRecDepth 100000 in
theorem b_with (s : St) (hs : ∀ i, s i < 1000) (ga : Option Addr) (gc : Nat) (gs : List Gr) (hl : gs.length ≤ 7) (hv : ∀ g ∈ gs, g.1 < 2 ^ 62) (x : Int) (v : Nat) (hx : x = v) (hv8 : v ≤ 62) (w : World) (hg : GrAt w ga gs) :
    Calls Try.prog 99 #[.agg (scells s), .slice ga gs.length gc, .int .i64 x] w (Gives (.agg (scells (withS gs s v))) w) := by
  subst hx
  have hsz := scells_size s
  have hones := ones_st s
  have H0 : Hid (withTo gs s v 0 = s) := by show _ = _; funext j; simp [withTo]
  have HE : Hid (withS gs s v = withTo gs s v gs.length) := rfl
  go_enter Try.func99, Try.ntmps99
  go_upto_region 1 with fail
  obtain ⟨W3, hW3⟩ : ∃ W3, W3 = (w.alloc (.cells (scells s) 126)).alloc (.cells (scells (fun _ => 0)) 126) := ⟨_, rfl⟩
  have b0 : Blk W3 w.heap.size (scells (withTo gs s v 0)) 126 := by rw [hW3, H0.out]; exact (Blk.new _ _ _).alloc _
  have b1 : Blk W3 (w.heap.size + 1) (scells (fun _ => 0)) 126 := by rw [hW3]; exact Blk.new' _ _ _ _ (by simp)
  have hb3 : Below w.heap.size w W3 := by rw [hW3]; (repeat (first | assumption | exact Below.refl _ _ | refine Below.drew ?_ | refine Below.alloc ?_ (by first | omega | (simp; done) | (simp; omega)) _ | refine Below.setCell ?_ (by first | omega | (simp; done) | (simp; omega)) _ | refine Below.trans ?_ (Below.mono (by assumption) (by first | omega | (simp; done) | (simp; omega)))))
  have hq : scells (fun _ => 0) = #[.int .i64 0, .int .i64 0, .int .i64 0, .int .i64 0, .int .i64 0, .int .i64 0, .int .i64 0] := rfl
  rw [hq] at hW3 b1
  rw [← hW3]
  have hz : w.heap.size + 2 = W3.heap.size := by rw [hW3]; simp
  clear hW3
  go_wp2
  go_loopw [11] (fun i wr => ∃ k : Nat, k ≤ gs.length ∧ i = .int .i64 k ∧ Below w.heap.size w wr ∧ w.heap.size + 2 ≤ wr.heap.size ∧ Blk wr w.heap.size (scells (withTo gs s v k)) 126 ∧
    Blk wr (w.heap.size + 1) #[.int .i64 0, .int .i64 0, .int .i64 0, .int .i64 0, .int .i64 0, .int .i64 0, .int .i64 0] 126) (fun i _ => gs.length - (intOf i).toNat)
  case atStart => exact ⟨0, by omega, rfl, hb3, by omega, b0, b1⟩
  case round =>
    clear b0 b1 hb3
    obtain ⟨k, hk, rfl, hB, hsz2, b0, b1⟩ := hrel
    by_cases hlt : k < gs.length
    · have hlti : (k : Int) < gs.length := by omega
      have hk7 : (k : Int) < 7 := by omega
      obtain ⟨gb, go, rfl, e1, e2, e3⟩ := hg k hlt
      have f1 := cell_later hB e1
      have f2 := cell_later hB e2
      have f3 := cell_later hB e3
      have hgb : gb < w.heap.size := World.block_lt_of_cell? w _ e1
      have hbit : inG gs v k = hasB gs[k].1 v := by simp [inG, hlt]
      have hvo := hv _ (List.getElem_mem hlt)
      have hbI := bit_u64 gs[k].1 v hvo
      have hself := withTo_self gs s v k
      have hsk := hs k
      have hcell := scells_at (withTo gs s v k) k (by omega)
      have hset := Lib.hid (scells_set (withTo gs s v k) k (by omega))
      rw [hself] at hcell
      have hst := Lib.hid (withTo_succ gs s v k)
      generalize gs[k] = g at *
      obtain ⟨vo, lo, hi⟩ := g
      simp only at *
      clear e1 e2 e3 hg
      have HSELF := Lib.hid hself
      clear hself
      generalize hsv : s k = sk at *
      have HSV := Lib.hid hsv
      clear hsv
      have hst2 := hst.out
      rw [hbit] at hst2
      clear hst hbit
      have r0 := b0.cell
      have r1 := b0.free
      cases hbb : hasB vo v
      · rw [hbb] at hbI hst2
        rw [if_neg (by simp)] at hst2
        have HST := Lib.hid hst2
        clear hst2 hbb
        go_wp2
        refine ⟨⟨k + 1, by omega, by go_num, by (repeat (first | assumption | exact Below.refl _ _ | refine Below.drew ?_ | refine Below.alloc ?_ (by first | omega | (simp; done) | (simp; omega)) _ | refine Below.setCell ?_ (by first | omega | (simp; done) | (simp; omega)) _ | refine Below.trans ?_ (Below.mono (by assumption) (by first | omega | (simp; done) | (simp; omega))))), by simp; omega, ?_, b1.alloc _⟩, by simp [intOf]; omega⟩
        rw [HST.out]
        exact b0.alloc _
      · rw [hbb] at hbI hst2
        rw [if_pos rfl] at hst2
        have HST := Lib.hid hst2
        clear hst2 hbb
        go_wp2
        refine ⟨⟨k + 1, by omega, by go_num, by (repeat (first | assumption | exact Below.refl _ _ | refine Below.drew ?_ | refine Below.alloc ?_ (by first | omega | (simp; done) | (simp; omega)) _ | refine Below.setCell ?_ (by first | omega | (simp; done) | (simp; omega)) _ | refine Below.trans ?_ (Below.mono (by assumption) (by first | omega | (simp; done) | (simp; omega))))), by simp; omega, ?_, (b1.alloc _).other (by show w.heap.size + 1 ≠ w.heap.size; omega) _⟩, by simp [intOf]; omega⟩
        rw [HST.out, ← hset.out, HSELF.out]
        exact (b0.alloc _).set _ _
    · have hkl : k = gs.length := by omega
      subst hkl
      have hszE := scells_size (withTo gs s v gs.length)
      have honesE := ones_st (withTo gs s v gs.length)
      rw [← HE.out] at b0 hszE honesE
      generalize withS gs s v = E at *
      generalize scells E = EC at *
      go_wp2_with (first
        | (refine wpList_load_blk 126 (.tmp 3) agg_st rfl rfl rfl b0 hszE ?_)
        | (refine wpList_store_blk 126 (.tmp 6) (.tmp 30) agg_st rfl rfl rfl rfl b1 rfl hszE honesE ?_; intro w5 h5))
      (try simp only [Exit.inBlock, Exit.then])
      refine bodyPost_ret (v := .agg EC) (results_cell_blk rfl _ agg_st rfl h5.blk hszE) rfl ⟨rfl, ?_⟩
      exact h5.below hB (by omega)

/-- Are all groups right? -/
def fitsTo (gs : List Gr) (s : St) (k : Nat) : Bool := (List.range k).all fun j => match gs[j]? with | some g => inB (s j) g.2.1 g.2.2 | none => true
def fitsB (gs : List Gr) (s : St) : Bool := fitsTo gs s gs.length
theorem fitsTo_succ (gs : List Gr) (s : St) (k : Nat) (h : k < gs.length) : fitsTo gs s (k + 1) = (fitsTo gs s k && inB (s k) gs[k].2.1 gs[k].2.2) := by
  unfold fitsTo
  rw [List.range_succ, List.all_append]
  simp [h]
theorem fitsTo_no (gs : List Gr) (s : St) (k n : Nat) (h : k ≤ n) (hf : fitsTo gs s k = false) : fitsTo gs s n = false := by
  unfold fitsTo at *
  rw [List.all_eq_false] at *
  obtain ⟨x, hx, hp⟩ := hf
  exact ⟨x, List.mem_range.2 (by have := List.mem_range.1 hx; omega), hp⟩

set_option maxHeartbeats 4000000 in
set_option maxRecDepth 100000 in
theorem b_sfits (s : St) (ga : Option Addr) (gc : Nat) (gs : List Gr) (hl : gs.length ≤ 7) (w : World) (hg : GrAt w ga gs) :
    Calls Try.prog 100 #[.agg (scells s), .slice ga gs.length gc] w (Gives (.bool (fitsB gs s)) w) := by
  have HE : Hid (fitsB gs s = fitsTo gs s gs.length) := rfl
  have HF := Lib.hid b_gfits
  have H0 : Hid (fitsTo gs s 0 = true) := rfl
  go_enter Try.func100, Try.ntmps100
  go_wp2
  have b0 : Blk (w.alloc (.cells (scells s) 126)) w.heap.size (scells s) 126 := Blk.new _ _ _
  go_loopw [10] (fun i wr => ∃ k : Nat, k ≤ gs.length ∧ i = .int .i64 k ∧ Below w.heap.size w wr ∧ w.heap.size < wr.heap.size ∧ Blk wr w.heap.size (scells s) 126 ∧ Hid (fitsTo gs s k = true)) (fun i _ => gs.length - (intOf i).toNat)
  case atStart => exact ⟨0, by omega, rfl, by (repeat (first | assumption | exact Below.refl _ _ | refine Below.drew ?_ | refine Below.alloc ?_ (by first | omega | (simp; done) | (simp; omega)) _ | refine Below.setCell ?_ (by first | omega | (simp; done) | (simp; omega)) _ | refine Below.trans ?_ (Below.mono (by assumption) (by first | omega | (simp; done) | (simp; omega))))), by simp, b0, H0⟩
  case round =>
    clear b0 H0
    obtain ⟨k, hk, rfl, hB, hsz2, b0, hF⟩ := hrel
    by_cases hlt : k < gs.length
    · have hlti : (k : Int) < gs.length := by omega
      have hk7 : (k : Int) < 7 := by omega
      obtain ⟨gb, go, rfl, e1, e2, e3⟩ := hg k hlt
      have f1 := cell_later hB e1
      have f2 := cell_later hB e2
      have f3 := cell_later hB e3
      have hgb : gb < w.heap.size := World.block_lt_of_cell? w _ e1
      have hst := Lib.hid (fitsTo_succ gs s k hlt)
      have hno := Lib.hid (fitsTo_no gs s (k + 1) gs.length (by omega))
      have hcell := scells_at s k (by omega)
      generalize gs[k] = g at *
      obtain ⟨vo, lo, hi⟩ := g
      simp only at *
      clear e1 e2 e3 hg
      have r0 := b0.cell
      cases hbb : inB (s k) lo hi
      · have HBB := Lib.hid hbb
        clear hbb
        go_wp2_with (go_at_call 107; refine (HF.out _ _ _ _ _).mono ?_; rw [HBB.out]; rintro e w4 ⟨rfl, hb4⟩; obtain ⟨c4, f4, z4⟩ := after hb4 (by simp; rfl))
        go_ret
        refine ⟨ret_bool ?_, ?_⟩
        · rw [HE.out]; exact (hno.out (by rw [hst.out, HBB.out]; simp)).symm
        · (repeat (first | assumption | exact Below.refl _ _ | refine Below.drew ?_ | refine Below.alloc ?_ (by first | omega | (simp; done) | (simp; omega)) _ | refine Below.setCell ?_ (by first | omega | (simp; done) | (simp; omega)) _ | refine Below.trans ?_ (Below.mono (by assumption) (by first | omega | (simp; done) | (simp; omega)))))
      · have HBB := Lib.hid hbb
        clear hbb
        go_wp2_with (go_at_call 107; refine (HF.out _ _ _ _ _).mono ?_; rw [HBB.out]; rintro e w4 ⟨rfl, hb4⟩; obtain ⟨c4, f4, z4⟩ := after hb4 (by simp; rfl))
        refine ⟨⟨k + 1, by omega, by go_num, by (repeat (first | assumption | exact Below.refl _ _ | refine Below.drew ?_ | refine Below.alloc ?_ (by first | omega | (simp; done) | (simp; omega)) _ | refine Below.setCell ?_ (by first | omega | (simp; done) | (simp; omega)) _ | refine Below.trans ?_ (Below.mono (by assumption) (by first | omega | (simp; done) | (simp; omega))))), by omega, (b0.alloc _).below hb4 (by simp; omega), ?_⟩, by simp [intOf]; omega⟩
        show _ = _
        rw [hst.out, HBB.out, hF.out]; rfl
    · have hkl : k = gs.length := by omega
      subst hkl
      go_wp2
      go_ret
      refine ⟨ret_bool ?_, hB⟩
      rw [HE.out]; exact hF.out.symm
end Go.Proofs.Ytjbjmoghloabpaa
