/- Package mob: joined, days, comes, stretch. -/
import Derived.Test.YteeinehpneppnaaGreatMoA
set_option linter.unusedVariables false
set_option linter.unusedSimpArgs false
namespace Go.Proofs.YteeinehpneppnaaGreat
open Go.RowKit Go.Proofs
attribute [local irreducible] Ord.walk
/-- The least span of the first spans. -/
def joinTo (l : List (Int × Int)) : Nat → Int × Int
  | 0 => (0, 0)
  | k + 1 => let x := l.getD k (0, 0); if k = 0 then x else (min (joinTo l k).1 x.1, max (joinTo l k).2 x.2)
def joinL (l : List (Int × Int)) : Int × Int := joinTo l l.length
set_option maxHeartbeats 40000000 in
set_option maxRecDepth 100000 in
theorem m_joined (l : List (Int × Int)) (a : Option Addr) (c : Nat) (w : World) (hl : l.length ≤ 1000000) (hr : RowsAt w a 2 spc l) :
    Calls Tryz.prog 76 #[.slice a l.length c] w (Gives (spv (joinL l)) w) := by
  have HJ : Hid (∀ k, joinTo l (k + 1) = if k = 0 then l.getD k (0, 0) else (min (joinTo l k).1 (l.getD k (0, 0)).1, max (joinTo l k).2 (l.getD k (0, 0)).2)) := fun _ => rfl
  have HE : Hid (joinL l = joinTo l l.length) := rfl
  have HZ : Hid (joinTo l 0 = (0, 0)) := rfl
  have hli : (l.length : Int) ≤ 1000000 := by omega
  generalize joinL l = R at *
  go_enter Tryz.func76, Tryz.ntmps76
  go_wp2_with fail
  obtain ⟨W1, hW1⟩ : ∃ W1, W1 = w.alloc (.cells #[.int .i64 0, .int .i64 0] 31) := ⟨_, rfl⟩
  have hB1 : Below w.heap.size w W1 := by rw [hW1]; exact (Below.refl _ _).alloc (Nat.le_refl _) _
  have b1 : Blk W1 w.heap.size #[.int .i64 (joinTo l 0).1, .int .i64 (joinTo l 0).2] 31 := by rw [hW1]; exact Blk.new _ _ _
  rw [← hW1]
  have hs1 : W1.heap.size = w.heap.size + 1 := by rw [hW1]; simp
  clear hW1
  generalize hz0 : w.heap.size = z0 at *
  have HZ0 := Lib.hid hz0
  clear hz0
  go_loopw [7] (fun i wr => ∃ k : Nat, k ≤ l.length ∧ i = .int .i64 k ∧ Below z0 W1 wr ∧ Blk wr z0 #[.int .i64 (joinTo l k).1, .int .i64 (joinTo l k).2] 31) (fun i _ => l.length - (intOf i).toNat)
  case atStart => exact ⟨0, Nat.zero_le _, rfl, Below.refl _ _, b1⟩
  case round =>
    clear b1
    obtain ⟨k, hk, rfl, hBr, br⟩ := hrel
    have hBw := hB1.trans hBr
    have hsr := hBr.size
    have rr := br.cell
    by_cases hlt : k < l.length
    · obtain ⟨gb, go, rfl, e1, e2⟩ := hr.get2 hlt
      have hgb : gb < z0 := by have h := World.block_lt_of_cell? w _ e1; rw [HZ0.out] at h; exact h
      have i1 := (hBw.cell (p := ⟨gb, go + k * 2, none⟩) hgb).trans e1
      have i2 := (hBw.cell (p := ⟨gb, go + k * 2 + 1, none⟩) hgb).trans e2
      have hlti : (k : Int) < l.length := by omega
      have HJk := Lib.hid (HJ.out k)
      have hge : l.getD k (0, 0) = l[k] := by rw [List.getD_eq_getElem?_getD, List.getElem?_eq_getElem hlt]; rfl
      rw [hge] at HJk
      generalize l[k] = x at *
      obtain ⟨x1, x2⟩ := x
      simp only at *
      clear e1 e2 hge HJ
      generalize joinTo l k = J at *
      obtain ⟨j1, j2⟩ := J
      simp only at *
      have hn : (wr.alloc (.cells #[.int .i64 0, .int .i64 0] 31)).heap.size = wr.heap.size + 1 := by simp
      have hbz : z0 < wr.heap.size := br.lt
      by_cases h0 : k = 0
      · have hk0 : ((k : Int) == 0) = true := by simp [h0]
        rw [if_pos h0] at HJk
        clear h0
        go_wp2_with (first
          | (refine wpList_store_blk 31 (.tmp 4) (.tmp 11) agg_span rfl rfl rfl rfl (Blk.new _ _ _) rfl rfl (by simp [Value.oneCell']) ?_; intro w5 h5; have c5 := h5.cell; have f5 := h5.free; have z5 := h5.size)
          | (refine wpList_store_blk 31 (.tmp 2) (.tmp 14) agg_span rfl rfl rfl rfl (h5.other (br.alloc _) (by omega)) rfl rfl (by simp [Value.oneCell']) ?_; intro w6 h6; have c6 := h6.cell; have f6 := h6.free; have z6 := h6.size)
          | (refine wpList_store_blk 31 (.tmp 2) (.tmp 25) agg_span rfl rfl rfl rfl (h6.blk) rfl rfl (by simp [Value.oneCell']) ?_; intro w7 h7; have c7 := h7.cell; have f7 := h7.free; have z7 := h7.size))
        refine ⟨⟨k + 1, by omega, by go_num, ?_, ?_⟩, by simp [intOf]; omega⟩
        · exact h7.below (h6.below (h5.below (hBr.alloc (by omega) _) (by omega)) (Nat.le_refl _)) (Nat.le_refl _)
        · have := h7.blk
          rw [HJk.out]
          have e1 : (if x1 < x1 then x1 else x1) = x1 := by split <;> rfl
          simpa using this
      · have hk0 : ((k : Int) == 0) = false := by simp; omega
        rw [if_neg h0] at HJk
        go_wp2_with (first
          | (refine wpList_store_blk 31 (.tmp 4) (.tmp 11) agg_span rfl rfl rfl rfl (Blk.new _ _ _) rfl rfl (by simp [Value.oneCell']) ?_; intro w5 h5; have c5 := h5.cell; have f5 := h5.free; have z5 := h5.size)
          | (refine wpList_store_blk 31 (.tmp 2) (.tmp 25) agg_span rfl rfl rfl rfl (h5.other (br.alloc _) (by omega)) rfl rfl (by simp [Value.oneCell']) ?_; intro w7 h7; have c7 := h7.cell; have f7 := h7.free; have z7 := h7.size))
        refine ⟨⟨k + 1, by omega, by go_num, ?_, ?_⟩, by simp [intOf]; omega⟩
        · exact h7.below (h5.below (hBr.alloc (by omega) _) (by omega)) (Nat.le_refl _)
        · have := h7.blk
          rw [HJk.out]
          have e1 : min j1 x1 = if x1 < j1 then x1 else j1 := by split <;> omega
          have e2 : max j2 x2 = if j2 < x2 then x2 else j2 := by split <;> omega
          simp only [e1, e2]
          exact this
    · have hlti : ¬ (k : Int) < l.length := by omega
      have e : k = l.length := by omega
      subst e
      rw [← HE.out] at br rr
      have br' := br
      go_wp2_with (first
        | (refine wpList_store_blk 31 (.tmp 2) (.tmp 27) agg_span rfl rfl rfl rfl br rfl rfl (by simp [Value.oneCell']) ?_; intro w6 h6))
      refine bodyPost_ret (v := spv R) (results_cell_blk rfl _ agg_span rfl h6.blk rfl) rfl ⟨rfl, ?_⟩
      rw [HZ0.out]
      exact h6.below hBw (Nat.le_refl _)
end Go.Proofs.YteeinehpneppnaaGreat
