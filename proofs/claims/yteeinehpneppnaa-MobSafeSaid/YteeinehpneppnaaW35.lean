/- Parts of a proof: MtB. -/
import Derived.Test.YteeinehpneppnaaW34
import Derived.Test.YteeinehpneppnaaW33
/- The law MobSafe walked: valid ways with mobs. (Printed by mkMtB.py) -/
set_option linter.unusedVariables false
set_option linter.unusedSimpArgs false
namespace Go.Proofs.Yteeinehpneppnaa
open Go.RowKit Go.Proofs
attribute [local irreducible] Ord.walk
theorem Blk.ne_type {w : World} {b b' : Nat} {A A' : Array Value} {t t' : TypeId} (h : Blk w b A t) (h' : Blk w b' A' t') (hne : t ≠ t') : b ≠ b' := by
  rintro rfl
  have := h.symm.trans h'
  simp only [Option.some.injEq, Obj.cells.injEq] at this
  exact hne this.2.1
theorem RB.ne_type {α : Type} {n : Nat} {f : α → List Value} {l : List α} {w : World} {b b' : Nat} {A : Array Value} {t t' : TypeId} (h : RB w b t n f l) (h' : Blk w b' A t') (hne : t ≠ t') : b ≠ b' := let ⟨_, h1, _⟩ := h; Blk.ne_type h1 h' hne
theorem RB.ne_type2 {α β : Type} {n n' : Nat} {f : α → List Value} {f' : β → List Value} {l : List α} {l' : List β} {w : World} {b b' : Nat} {t t' : TypeId} (h : RB w b t n f l) (h' : RB w b' t' n' f' l') (hne : t ≠ t') : b ≠ b' := let ⟨_, h1, _⟩ := h'; h.ne_type h1 hne
def restF (p : Bool × Int) : Bool × Int := (p.1, min 3 (p.2 + 1))
def wetF (p : Bool × Int) : Bool × Int := (true, p.2)
set_option maxHeartbeats 40000000 in
set_option maxRecDepth 100000 in
theorem w_Safe_main (m : Mb) (A : Ma) (n1 n2 : Nat) (hn1 : n1 < 256) (hn2 : n2 < 256) (w : World) (hm : MbAt w m A) (hv : validM m = true) (hh : 0 < m.herds.length) :
    Calls Try.prog 8 #[mv m A, .int .u8 n1, .int .u8 n2] w (Gives (.bool true) w) := by
  have hln := validM_len hv
  have HL : Hid (∀ W, Calls Try.prog 27 #[mv m A] W (Gives (.bool false) W)) := fun W => by
    have := l_long m A W (by unfold maxLen; omega) (by unfold maxLen; omega) (by unfold maxLen; omega) (by unfold maxLen; omega)
    rwa [longB_valid hv] at this
  have HBn : Hid (∀ W, Below w.heap.size w W → Calls Try.prog 28 #[mv m A] W (Gives (.bool true) W)) := fun W hb => by
    have := r_mob m A (long_len (longB_valid hv)) W (hm.below hb)
    rwa [hv] at this
  obtain ⟨i, hie⟩ : ∃ i, n1 % m.herds.length = i := ⟨_, rfl⟩
  obtain ⟨k, hke⟩ : ∃ k, n2 % m.herds.length = k := ⟨_, rfl⟩
  obtain ⟨n, hne⟩ : ∃ n, n2 % 3 = n := ⟨_, rfl⟩
  have hi : i < m.herds.length := by rw [← hie]; exact Nat.mod_lt _ hh
  have hk : k < m.herds.length := by rw [← hke]; exact Nat.mod_lt _ hh
  have hn : n < 3 := by omega
  have hr1 : (n1 : Int).tmod (m.herds.length : Int) = (i : Int) := by rw [← hie, Int.tmod_eq_emod_of_nonneg (by omega)]; rfl
  have hr2 : (n2 : Int).tmod (m.herds.length : Int) = (k : Int) := by rw [← hke, Int.tmod_eq_emod_of_nonneg (by omega)]; rfl
  have hr3 : (n2 : Int).tmod 3 = (n : Int) := by rw [← hne, Int.tmod_eq_emod_of_nonneg (by omega)]; rfl
  obtain ⟨s1, s2, e, sf, a, b, q1, q2, q3, q4, hcase⟩ := sfP hv hi hk
  obtain ⟨o1, o2, w1, w2, y1, y2, y3, y4, y5, y6⟩ := sfQ hv hi (n := (n : Int)) (by omega)
  have hst := start_le hv hi
  have hlt := late_mem (vparts hv) hi (n := (n : Int)) (by omega)
  have hM := long_len (longB_valid hv)
  have I1 : Hid (∀ W, Below w.heap.size w W → Calls Try.prog 24 #[mv m A, .int .i64 (i : Int)] W (Gives2 (.agg #[.int .i64 s1, .int .i64 s2]) (.int .i64 e) W)) := fun W hb => by
    have := m_Stretch (A := A) i W hM (hm.below hb); rw [q1] at this; exact this
  have I2 : Hid (∀ W, Below w.heap.size w W → Calls Try.prog 25 #[mv m A, .int .i64 (i : Int)] W (Gives2 (.int .i64 sf) (.int .i64 e) W)) := fun W hb => by
    have := m_Safe (A := A) i W hM (hm.below hb); rwa [q2] at this
  have I3 : Hid (∀ W, Below w.heap.size w W → Calls Try.prog 13 #[mv m A, .int .i64 (i : Int), .int .i64 (k : Int)] W (Gives2 (.int .i64 a) (.int .i64 e) W)) := fun W hb => by
    have := m_Ahead (A := A) i k W hM (hm.below hb); rwa [q3] at this
  have I4 : Hid (∀ W, Below w.heap.size w W → Calls Try.prog 13 #[mv m A, .int .i64 (k : Int), .int .i64 (i : Int)] W (Gives2 (.int .i64 b) (.int .i64 e) W)) := fun W hb => by
    have := m_Ahead (A := A) k i W hM (hm.below hb); rwa [q4] at this
  have X1 : Hid (∀ W a1 c1 a3 c3, RowsAt W a1 2 plc m.places → RowsAt W A.la 2 spc m.legs → RowsAt W a3 4 i4c m.herds → Calls Try.prog 24 #[.agg #[.slice a1 m.places.length c1, .slice A.la m.legs.length A.lc, .slice a3 m.herds.length c3, .slice none 0 0], .int .i64 (i : Int)] W (Gives2 (.agg #[.int .i64 o1, .int .i64 o2]) (.int .i64 0) W)) := fun W a1 c1 a3 c3 r1 r2 r3 => by
    have := m_Stretch (m := bareM m) (A := ⟨a1, c1, A.la, A.lc, a3, c3, none, 0⟩) i W ⟨hM.places, hM.legs, hM.herds, by simp [bareM]⟩ ⟨r1, r2, r3, rows_nil _⟩
    rw [y1] at this
    exact this
  have X2 : Hid (∀ W a1 c1 a3 c3, RowsAt W a1 2 plc (m.places.map restF) → RowsAt W A.la 2 spc m.legs → RowsAt W a3 4 i4c (lateL m i n) → Calls Try.prog 24 #[.agg #[.slice a1 m.places.length c1, .slice A.la m.legs.length A.lc, .slice a3 m.herds.length c3, .slice none 0 0], .int .i64 (i : Int)] W (Gives2 (.agg #[.int .i64 o1, .int .i64 o2]) (.int .i64 0) W)) := fun W a1 c1 a3 c3 r1 r2 r3 => by
    have := m_Stretch (m := restM m (lateL m i n)) (A := ⟨a1, c1, A.la, A.lc, a3, c3, none, 0⟩) i W ⟨by simp [restM]; omega, by simp [restM]; omega, by simp [restM, hlt.1]; omega, by simp [restM]⟩ ⟨r1, r2, r3, rows_nil _⟩
    rw [y2] at this
    unfold mv mcells at this
    rw [show (restM m (lateL m i n)).places.length = m.places.length by simp [restM], show (restM m (lateL m i n)).herds.length = m.herds.length from hlt.1] at this
    exact this
  have X3 : Hid (∀ W a1 c1 a3 c3, RowsAt W a1 2 plc ((m.places.map restF).map wetF) → RowsAt W A.la 2 spc m.legs → RowsAt W a3 4 i4c (lateL m i n) → Calls Try.prog 24 #[.agg #[.slice a1 m.places.length c1, .slice A.la m.legs.length A.lc, .slice a3 m.herds.length c3, .slice none 0 0], .int .i64 (i : Int)] W (Gives2 (.agg #[.int .i64 w1, .int .i64 w2]) (.int .i64 0) W)) := fun W a1 c1 a3 c3 r1 r2 r3 => by
    have := m_Stretch (m := wetM m (lateL m i n)) (A := ⟨a1, c1, A.la, A.lc, a3, c3, none, 0⟩) i W ⟨by simp [wetM]; omega, by simp [wetM]; omega, by simp [wetM, hlt.1]; omega, by simp [wetM]⟩ ⟨by simpa [wetM, List.map_map, Function.comp_def, restF, wetF] using r1, r2, r3, rows_nil _⟩
    rw [y3] at this
    unfold mv mcells at this
    rw [show (wetM m (lateL m i n)).places.length = m.places.length by simp [wetM], show (wetM m (lateL m i n)).herds.length = m.herds.length from hlt.1] at this
    exact this
  have HA := Lib.hid l_alive
  obtain ⟨i0, hi0, hz0, hz1, hz2⟩ := info_parts Try.info70
  obtain ⟨j0, hj0, kz0, kz1, kz2⟩ := info_parts Try.info56
  have HLG0 : Hid (∀ p, lgTo m (startN m i) (p + 1) = if p < m.legs.length ∧ startN m i ≤ p then max (lgTo m (startN m i) p) (m.legs.getD p (0, 0)).2 else lgTo m (startN m i) p) := fun p => rfl
  have HLG : Hid (∀ p, 0 ≤ lgTo m (startN m i) p ∧ lgTo m (startN m i) p ≤ 5) := fun p => lgTo_in hv _ _
  have HLZ : lgTo m (startN m i) 0 = 0 := rfl
  have hlegs : Hid (∀ p, p < m.legs.length → 1 ≤ (m.legs.getD p (0, 0)).1 ∧ (m.legs.getD p (0, 0)).2 ≤ 5 ∧ (m.legs.getD p (0, 0)).1 ≤ (m.legs.getD p (0, 0)).2) := fun p hp => by have := validM_leg hv hp; omega
  have hplc : Hid (∀ p ∈ m.places, 0 ≤ p.2 ∧ p.2 ≤ 3) := (vparts hv).pl
  have hgi : m.herds.getD i (0, 0, 0, 0) = m.herds[i] := by rw [List.getD_eq_getElem?_getD, List.getElem?_eq_getElem hi]; rfl
  have hrng := validM_herd hv hi
  have hlate : lateL m i n = if m.herds[i].2.2.1 + n ≤ 30 then m.herds.set i (m.herds[i].1, m.herds[i].2.1 + n, m.herds[i].2.2.1 + n, m.herds[i].2.2.2) else m.herds := by unfold lateL; rw [hgi]
  have hstart : (startN m i : Int) = m.herds[i].1 := by rw [← hst.2]; unfold startI; rw [Int.toNat_natCast, ← List.getD_eq_getElem?_getD, hgi]
  have hth : thirstI m i = m.herds[i].2.2.2 := by unfold thirstI; rw [hgi]
  rw [hth] at hcase
  rw [hgi] at hrng
  generalize lateL m i n = hs' at *
  generalize startN m i = st at *
  have HMR : Hid (∀ W, Below w.heap.size w W → MbAt W m A) := fun W h => hm.below h
  obtain ⟨lg, hlg⟩ : ∃ lg, lg = lgTo m st := ⟨_, rfl⟩
  rw [← hlg] at HLG0 HLG HLZ y4
  subst y4
  clear q1 q2 q3 q4 y1 y2 y3 hth hgi hst hlt hlg hie hke hne hv hM
  rcases A with ⟨pa, pc, la, lc, ha, hc, sa, sc⟩
  rcases m with ⟨ps, ls, hs, ss⟩
  unfold mv mcells at *
  simp only at *
  have hp2 : 0 < ps.length := by omega
  have hp6 : (ps.length : Int) ≤ 6 := by omega
  have hl5 : (ls.length : Int) ≤ 5 := by omega
  have hh4 : (hs.length : Int) ≤ 4 := by omega
  have hh0 : ¬ (hs.length : Int) = 0 := by omega
  have hhi : (i : Int) < (hs.length : Int) := Int.ofNat_lt.2 hi
  obtain ⟨gb, go, hha, c1, c2, c3, c4⟩ := hm.herds.get4 hi
  simp only at hha
  subst hha
  generalize hsi : hs[i] = hd at *
  obtain ⟨d1, d2, d3, d4⟩ := hd
  simp only at c1 c2 c3 c4 hrng hlate hstart hcase
  have hgb := World.block_lt_of_cell? w _ c1
  simp only at hgb
  go_enter Try.func8, Try.ntmps8
  go_wp2_with (first
    | (go_at_call 27; refine (HL.out _).mono ?_; rintro e w1 ⟨rfl, hb1⟩; refine at_stop ?_))
  unfold Stop
  have bb := (Blk.new w #[.slice pa ps.length pc, .slice la ls.length lc, .slice (some ⟨gb, go, none⟩) hs.length hc, .slice sa ss.length sc] 27).below hb1 (by first | omega | (simp; done) | (simp; omega))
  have hB := ((Below.refl w.heap.size w).alloc (Nat.le_refl _) _).trans (hb1.mono (by first | omega | (simp; done) | (simp; omega)))
  clear hb1
  have rb := bb.cell
  go_wp2_with (first
    | (go_at_call 28; refine (HBn.out _ hB).mono ?_; rintro e w2 ⟨rfl, hb2⟩; refine at_stop ?_))
  unfold Stop
  clear rb
  replace bb := bb.below hb2 bb.lt
  replace hB := hB.trans (hb2.mono hB.size)
  clear hb2 HL HBn
  have rb := bb.cell
  have i1 := (hB.cell (p := ⟨gb, go + i * 4, none⟩) hgb).trans c1
  have i2 := (hB.cell (p := ⟨gb, go + i * 4 + 1, none⟩) hgb).trans c2
  have i3 := (hB.cell (p := ⟨gb, go + i * 4 + 2, none⟩) hgb).trans c3
  have i4 := (hB.cell (p := ⟨gb, go + i * 4 + 3, none⟩) hgb).trans c4
  go_wp2_with fail
  refine Ord.wp_regionN [(0, 0), (1, 0), (2, 0), (3, 0), (4, 0), (5, 0), (6, 0), (7, 0), (8, 0), (9, 0), (10, 0), (11, 0), (12, 0), (13, 0)] (fun _ => True) (by kernel_rfl) (by kernel_rfl) trivial ?_
  go_wp2_with (first
    | (refine wpList_store_blk 56 (.tmp 9) (.tmp 60) agg_herdA rfl rfl rfl rfl (Blk.new _ _ _) rfl rfl (by simp [Value.oneCell']) ?_; intro w4 h4; refine at_stop ?_)
    | (with_reducible refine Ord.at_nm ?_)
    | ((with_reducible refine Ord.at_calm ?_); refine Ord.calm_skip rfl ?_ (fun K hK => ?_); (focus (simp [Region.wanted, yielded]; done))) | with_reducible refine Ord.walk_calm rfl rfl (fun K hK => ?_) | ((with_reducible refine Ord.at_wild ?_); refine Ord.wild_fieldAddr rfl rfl (fun W => by simp [go_sem]; rfl) (fun K hK => ?_)) | ((with_reducible refine Ord.at_wild ?_); refine Ord.wild_move rfl rfl (fun K hK => ?_)) | ((with_reducible refine Ord.at_wild ?_); refine Ord.wild_nilCheck rfl rfl (fun K hK => ?_)) | with_reducible refine Ord.walk_eff rfl (by first | (simp; done) | assumption | (go_simp; done) | (repeat (first | assumption | exact Below.refl _ _ | refine Below.drew ?_ | refine Below.alloc ?_ (by first | omega | (simp; done) | (simp; omega)) _ | refine Below.setCell ?_ (by first | omega | (simp; done) | (simp; omega)) _ | refine Below.trans ?_ (Below.mono (by assumption) (by first | omega | (simp; done) | (simp; omega)))))) (fun K hK => ?_) | with_reducible refine Ord.at_fork ?_ ?_ | with_reducible refine Ord.walk_nil ?_ | (with_reducible refine Ord.next_of (by first | (simp; done) | (go_simp; done) | (repeat (first | assumption | exact Below.refl _ _ | refine Below.drew ?_ | refine Below.alloc ?_ (by first | omega | (simp; done) | (simp; omega)) _ | refine Below.setCell ?_ (by first | omega | (simp; done) | (simp; omega)) _ | refine Below.trans ?_ (Below.mono (by assumption) (by first | omega | (simp; done) | (simp; omega)))))) (fun _ => ?_)))
  unfold Stop
  have b9 := h4.blk
  replace bb := h4.other (bb.drew.alloc _) (by have := bb.lt; simp; omega)
  replace hB := h4.below (hB.drew.alloc hB.size _) hB.size
  generalize hp9 : w2.heap.size = p9 at *
  clear h4 rb i1 i2 i3 i4 c1 c2 c3 c4 hr1 hr2 hh0
  go_wp2_with (first
    | (refine wpList_load_blk 27 (.tmp 3) agg_mob rfl rfl rfl bb rfl ?_)
    | (go_at_call 24; refine (I1.out _ hB).mono ?_; rintro e w5 ⟨rfl, hb5⟩; replace bb := bb.below hb5 bb.lt; replace b9 := b9.below hb5 b9.lt; replace hB := hB.trans (hb5.mono hB.size); clear hb5; refine at_stop ?_))
  unfold Stop
  go_wp2_with (first
    | (refine wpList_store_blk 39 (.tmp 10) (.tmp 65) agg_span rfl rfl rfl rfl (Blk.new _ _ _) rfl rfl (by simp [Value.oneCell']) ?_; intro w6 h; refine at_stop ?_))
  unfold Stop
  have b10 := h.blk
  replace bb := h.other (bb.alloc _) (by have := bb.lt; omega)
  replace b9 := h.other (b9.alloc _) (by have := b9.lt; omega)
  replace hB := h.below (hB.alloc hB.size _) hB.size
  generalize hp10 : w5.heap.size = p10 at *
  clear h
  go_wp2_with (first
    | (refine wpList_load_blk 27 (.tmp 3) agg_mob rfl rfl rfl bb rfl ?_)
    | (go_at_call 25; refine (I2.out _ hB).mono ?_; rintro e w7 ⟨rfl, hb5⟩; replace bb := bb.below hb5 bb.lt; replace b9 := b9.below hb5 b9.lt; replace b10 := b10.below hb5 b10.lt; replace hB := hB.trans (hb5.mono hB.size); clear hb5; refine at_stop ?_))
  unfold Stop
  go_wp2_with (first
    | (refine wpList_load_blk 27 (.tmp 3) agg_mob rfl rfl rfl bb rfl ?_)
    | (go_at_call 13; refine (I3.out _ hB).mono ?_; rintro e w8 ⟨rfl, hb5⟩; replace bb := bb.below hb5 bb.lt; replace b9 := b9.below hb5 b9.lt; replace b10 := b10.below hb5 b10.lt; replace hB := hB.trans (hb5.mono hB.size); clear hb5; refine at_stop ?_))
  unfold Stop
  go_wp2_with (first
    | (refine wpList_load_blk 27 (.tmp 3) agg_mob rfl rfl rfl bb rfl ?_)
    | (go_at_call 13; refine (I4.out _ hB).mono ?_; rintro e w9 ⟨rfl, hb5⟩; replace bb := bb.below hb5 bb.lt; replace b9 := b9.below hb5 b9.lt; replace b10 := b10.below hb5 b10.lt; replace hB := hB.trans (hb5.mono hB.size); clear hb5; refine at_stop ?_))
  unfold Stop
  clear I1 I2 I3 I4
  have r9 := b9.cell
  have r10 := b10.cell
  go_upto_region 9 with fail
  go_cut [116] from 30 to 116 (fun p wx => p = .bool false ∧ wx = w9)
  case first =>
    as_aux_lemma =>
      clear X1 X2 X3 HA HLG0 HLG hlegs hplc HMR bb hB b9 r9 b10
      rcases hcase with ⟨rfl, rfl, rfl, rfl⟩ | ⟨rfl, hc⟩
      all_goals go_wp2_with fail
      all_goals go_meet
      all_goals exact ⟨rfl, rfl⟩
  case rest =>
    obtain ⟨rfl, rfl⟩ := hcut
    go_upto_region 11 with fail
    go_cut [167] from 117 to 167 (fun p wx => p = .bool false ∧ wx = wc)
    case first =>
      as_aux_lemma =>
        clear X1 X2 X3 HA HLG0 HLG hlegs hplc HMR bb hB b9 b10
        rcases hcase with ⟨rfl, rfl, rfl, rfl⟩ | ⟨rfl, hsf, h12, h1s, hab, hik⟩
        · go_wp2_with fail
          go_meet
          exact ⟨rfl, rfl⟩
        · have f3 : ¬ s2 < s1 := by omega
          have f4 : ¬ s1 < 1 := by omega
          by_cases hki : i = k
          · obtain rfl := hik hki
            subst hki
            clear hab hik
            rcases hsf with ⟨rfl, hs⟩ | ⟨rfl, hs, hs'⟩ | ⟨rfl, hs⟩
            · have f1 : ¬ d4 < s1 := by omega
              go_wp2_with fail
              go_meet
              first | exact ⟨rfl, rfl⟩ | exact ⟨congrArg Value.bool (by simp; omega), rfl⟩
            · have f1 : ¬ d4 < s1 := by omega
              have f2 : ¬ s2 ≤ d4 := by omega
              go_wp2_with fail
              go_meet
              first | exact ⟨rfl, rfl⟩ | exact ⟨congrArg Value.bool (by simp; omega), rfl⟩
            · have f2 : ¬ s2 ≤ d4 := by omega
              go_wp2_with fail
              go_meet
              first | exact ⟨rfl, rfl⟩ | exact ⟨congrArg Value.bool (by simp; omega), rfl⟩
          · have hki2 : ((i : Int) == (k : Int)) = false := by rw [beq_eq_false_iff_ne]; omega
            clear hki hik
            by_cases ha : a = 2
            · obtain rfl := hab ha
              subst ha
              clear hab
              rcases hsf with ⟨rfl, hs⟩ | ⟨rfl, hs, hs'⟩ | ⟨rfl, hs⟩
              · have f1 : ¬ d4 < s1 := by omega
                go_wp2_with fail
                go_meet
                first | exact ⟨rfl, rfl⟩ | exact ⟨congrArg Value.bool (by simp; omega), rfl⟩
              · have f1 : ¬ d4 < s1 := by omega
                have f2 : ¬ s2 ≤ d4 := by omega
                go_wp2_with fail
                go_meet
                first | exact ⟨rfl, rfl⟩ | exact ⟨congrArg Value.bool (by simp; omega), rfl⟩
              · have f2 : ¬ s2 ≤ d4 := by omega
                go_wp2_with fail
                go_meet
                first | exact ⟨rfl, rfl⟩ | exact ⟨congrArg Value.bool (by simp; omega), rfl⟩
            · have ha2 : (a == 2) = false := by rw [beq_eq_false_iff_ne]; exact ha
              clear hab ha
              rcases hsf with ⟨rfl, hs⟩ | ⟨rfl, hs, hs'⟩ | ⟨rfl, hs⟩
              · have f1 : ¬ d4 < s1 := by omega
                go_wp2_with fail
                go_meet
                first | exact ⟨rfl, rfl⟩ | exact ⟨congrArg Value.bool (by simp; omega), rfl⟩
              · have f1 : ¬ d4 < s1 := by omega
                have f2 : ¬ s2 ≤ d4 := by omega
                go_wp2_with fail
                go_meet
                first | exact ⟨rfl, rfl⟩ | exact ⟨congrArg Value.bool (by simp; omega), rfl⟩
              · have f2 : ¬ s2 ≤ d4 := by omega
                go_wp2_with fail
                go_meet
                first | exact ⟨rfl, rfl⟩ | exact ⟨congrArg Value.bool (by simp; omega), rfl⟩
    case rest =>
      obtain ⟨rfl, rfl⟩ := hcut
      clear hcase r9 r10
      have hlp := bb.lt
      have hl9 := b9.lt
      go_wp2_with (first
        | (refine wpList_load_blk 27 (.tmp 3) agg_mob rfl rfl rfl bb rfl ?_)
        | (refine wpList_store_blk 27 (.tmp 18) (.tmp 168) agg_mob rfl rfl rfl rfl (Blk.new _ _ _) rfl rfl (by simp [Value.oneCell']) ?_; intro w10 h; refine at_stop ?_))
      unfold Stop
      have b18 := h.blk
      replace bb := h.other (bb.alloc _) (by have := bb.lt; omega)
      replace b9 := h.other (b9.alloc _) (by have := b9.lt; omega)
      replace hB := h.below (hB.alloc hB.size _) hB.size
      generalize hp18 : wc.heap.size = p18 at *
      clear h
      clear b10
      have rb := bb.cell
      have hs10 := b18.lt
      obtain ⟨z10, hz10⟩ : ∃ z, z = w10.heap.size := ⟨_, rfl⟩
      go_upto_region 14 with fail
      go_cut [] from 169 to 179 (fun wx => ∃ v1 v2 : Value, Blk wx p18 #[v1, .slice la ls.length lc, v2, .slice none 0 0] 27 ∧ CopyV wx z10 70 2 plc ps v1 ∧ CopyV wx z10 56 4 i4c hs v2 ∧ Below p18 w10 wx)
      case first =>
        as_aux_lemma =>
          subst hz10
          have hBx : ∀ W, Below w10.heap.size w10 W → Below w.heap.size w W := fun W h => hB.trans (h.mono (by omega))
          clear X1 X2 X3 HA HLG0 HLG hlegs hplc bb b9
          refine Ord.wp_regionTN 4 (.fork2 [(1, 1), (2, 1), (5, 1), (6, 1), (8, 1)] 0 (.fork2 [] 3 (.leaf [(4, 2), (7, 2), (9, 2), (10, 0), (11, 2), (12, 0), (13, 2)]) 4 (.leaf [(3, 2), (7, 2), (9, 2), (10, 0), (11, 2), (12, 0), (13, 2)])) 4 (.leaf [(0, 2), (3, 2), (7, 2), (9, 2), (10, 0), (11, 2), (12, 0), (13, 2)])) (fun W => Below p18 w10 W) (by kernel_rfl) (by kernel_rfl) (Below.refl _ _).drew ?_
          go_wp2_with (first
            | ((with_reducible refine Ord.at_wild ?_); refine Ord.wild_load (ad := ⟨w.heap.size, 0, none⟩) (.slice pa ps.length pc) rfl rfl ?_ ?_; (focus (intro W hW; obtain ⟨cW, _, zW⟩ := below_rules hW rfl; simp [go_sem, cW, ↓IntWalk.iteOmega, rb]; done)); intro K hK)
            | ((with_reducible refine Ord.at_wild ?_); refine Ord.wild_load (ad := ⟨w.heap.size, 2, none⟩) (.slice (some ⟨gb, go, none⟩) hs.length hc) rfl rfl ?_ ?_; (focus (intro W hW; obtain ⟨cW, _, zW⟩ := below_rules hW rfl; simp [go_sem, cW, ↓IntWalk.iteOmega, rb]; done)); intro K hK)
            | (at_builtin; refine at_stop ?_)
            | (with_reducible refine Ord.at_nm ?_)
            | with_reducible refine Ord.top_two ?_ | with_reducible refine Ord.top_three ?_ | with_reducible refine Ord.at_two ?_ ?_ | with_reducible refine Ord.at_three ?_ ?_ ?_ | with_reducible refine Ord.tree_leaf ?_ | with_reducible refine Ord.tree_two ?_ | ((with_reducible refine Ord.at_calm ?_); refine Ord.calm_skip rfl ?_ (fun K hK => ?_); (focus (simp [Region.wanted, yielded]; done))) | with_reducible refine Ord.walk_calm rfl rfl (fun K hK => ?_) | ((with_reducible refine Ord.at_wild ?_); refine Ord.wild_fieldAddr rfl rfl (fun W => by simp [go_sem]; rfl) (fun K hK => ?_)) | ((with_reducible refine Ord.at_wild ?_); refine Ord.wild_move rfl rfl (fun K hK => ?_)) | ((with_reducible refine Ord.at_wild ?_); refine Ord.wild_nilCheck rfl rfl (fun K hK => ?_)) | with_reducible refine Ord.walk_eff rfl (by first | (simp; done) | assumption | (go_simp; done) | (repeat (first | assumption | exact Below.refl _ _ | refine Below.drew ?_ | refine Below.alloc ?_ (by first | omega | (simp; done) | (simp; omega)) _ | refine Below.setCell ?_ (by first | omega | (simp; done) | (simp; omega)) _ | refine Below.trans ?_ (Below.mono (by assumption) (by first | omega | (simp; done) | (simp; omega)))))) (fun K hK => ?_) | with_reducible refine Ord.at_fork ?_ ?_ | with_reducible refine Ord.walk_nil ?_ | (with_reducible refine Ord.next_of (by first | (simp; done) | (go_simp; done) | (repeat (first | assumption | exact Below.refl _ _ | refine Below.drew ?_ | refine Below.alloc ?_ (by first | omega | (simp; done) | (simp; omega)) _ | refine Below.setCell ?_ (by first | omega | (simp; done) | (simp; omega)) _ | refine Below.trans ?_ (Below.mono (by assumption) (by first | omega | (simp; done) | (simp; omega)))))) (fun _ => ?_)))
          all_goals unfold Stop
          · refine wpList_copy rfl (.tmp 169) (.tmp 171) 22 rfl 70 i0 (.agg #[.bool false, .int .i64 0]) 16 Try.underlying22 hi0 hz0 hz1 hz2 rfl (by decide) w10.heap.size _ (by first | omega | (simp; done)) rfl (by first | exact Blk.new _ _ _ | exact (Blk.new _ _ _).alloc _ | exact Blk.new' _ _ _ _ (by simp)) plc_len plc_one rfl ((HMR.out _ (hBx _ (by (repeat (first | assumption | exact Below.refl _ _ | refine Below.drew ?_ | refine Below.alloc ?_ (by first | omega | (simp; done) | (simp; omega)) _ | refine Below.setCell ?_ (by first | omega | (simp; done) | (simp; omega)) _ | refine Below.trans ?_ (Below.mono (by assumption) (by first | omega | (simp; done) | (simp; omega)))))))).places) (by show ps.length ≤ 1000; omega) (by decide) (by first | omega | (simp; done) | (simp; omega)) ?_
            intro v1 wa hcv1 hba hoth
            have hBa : Below w10.heap.size w10 wa := Below.trans (by (repeat (first | assumption | exact Below.refl _ _ | refine Below.drew ?_ | refine Below.alloc ?_ (by first | omega | (simp; done) | (simp; omega)) _ | refine Below.setCell ?_ (by first | omega | (simp; done) | (simp; omega)) _ | refine Below.trans ?_ (Below.mono (by assumption) (by first | omega | (simp; done) | (simp; omega)))))) hba
            have hBa2 : Below p18 w10 wa := hBa.mono (by omega)
            have hsa := hBa.size
            go_wp2_with (first
              | (at_builtin; refine at_stop ?_)
              | (with_reducible refine Ord.at_nm ?_)
              | with_reducible refine Ord.top_two ?_ | with_reducible refine Ord.top_three ?_ | with_reducible refine Ord.at_two ?_ ?_ | with_reducible refine Ord.at_three ?_ ?_ ?_ | with_reducible refine Ord.tree_leaf ?_ | with_reducible refine Ord.tree_two ?_ | ((with_reducible refine Ord.at_calm ?_); refine Ord.calm_skip rfl ?_ (fun K hK => ?_); (focus (simp [Region.wanted, yielded]; done))) | with_reducible refine Ord.walk_calm rfl rfl (fun K hK => ?_) | ((with_reducible refine Ord.at_wild ?_); refine Ord.wild_fieldAddr rfl rfl (fun W => by simp [go_sem]; rfl) (fun K hK => ?_)) | ((with_reducible refine Ord.at_wild ?_); refine Ord.wild_move rfl rfl (fun K hK => ?_)) | ((with_reducible refine Ord.at_wild ?_); refine Ord.wild_nilCheck rfl rfl (fun K hK => ?_)) | with_reducible refine Ord.walk_eff rfl (by first | (simp; done) | assumption | (go_simp; done) | (repeat (first | assumption | exact Below.refl _ _ | refine Below.drew ?_ | refine Below.alloc ?_ (by first | omega | (simp; done) | (simp; omega)) _ | refine Below.setCell ?_ (by first | omega | (simp; done) | (simp; omega)) _ | refine Below.trans ?_ (Below.mono (by assumption) (by first | omega | (simp; done) | (simp; omega)))))) (fun K hK => ?_) | with_reducible refine Ord.at_fork ?_ ?_ | with_reducible refine Ord.walk_nil ?_ | (with_reducible refine Ord.next_of (by first | (simp; done) | (go_simp; done) | (repeat (first | assumption | exact Below.refl _ _ | refine Below.drew ?_ | refine Below.alloc ?_ (by first | omega | (simp; done) | (simp; omega)) _ | refine Below.setCell ?_ (by first | omega | (simp; done) | (simp; omega)) _ | refine Below.trans ?_ (Below.mono (by assumption) (by first | omega | (simp; done) | (simp; omega)))))) (fun _ => ?_)))
            unfold Stop
            refine wpList_copy rfl (.tmp 173) (.tmp 175) 24 rfl 56 j0 (.agg #[.int .i64 0, .int .i64 0, .int .i64 0, .int .i64 0]) 32 Try.underlying24 hj0 kz0 kz1 kz2 rfl (by decide) w10.heap.size _ (by first | omega | (simp; done)) rfl (Blk.new _ _ _) i4c_len i4c_one rfl ((HMR.out _ (hBx _ (by (repeat (first | assumption | exact Below.refl _ _ | refine Below.drew ?_ | refine Below.alloc ?_ (by first | omega | (simp; done) | (simp; omega)) _ | refine Below.setCell ?_ (by first | omega | (simp; done) | (simp; omega)) _ | refine Below.trans ?_ (Below.mono (by assumption) (by first | omega | (simp; done) | (simp; omega)))))))).herds) (by show hs.length ≤ 1000; omega) (by decide) (by first | omega | (simp; done) | (simp; omega)) ?_
            intro v2 wb hcv2 hbb hoth2
            have hBb : Below w10.heap.size w10 wb := Below.trans (by (repeat (first | assumption | exact Below.refl _ _ | refine Below.drew ?_ | refine Below.alloc ?_ (by first | omega | (simp; done) | (simp; omega)) _ | refine Below.setCell ?_ (by first | omega | (simp; done) | (simp; omega)) _ | refine Below.trans ?_ (Below.mono (by assumption) (by first | omega | (simp; done) | (simp; omega)))))) hbb
            have hBb2 : Below p18 w10 wb := hBb.mono (by omega)
            have hcv1' := hcv1.move (w' := wb) (fun g cur hg hb => hoth2 _ _ _ (hb.alloc _) (Blk.ne_type (hb.alloc _) (Blk.new _ #[] 56) (by decide)))
            have b18b := b18.below hBb b18.lt
            obtain ⟨a1, k1, rfl, hv1⟩ := hcv1'
            obtain ⟨a2, k2, rfl, hv2⟩ := hcv2
            have r18 := b18b.cell
            have f18 := b18b.free
            have l18 := b18b.lt
            go_wp2_with (first
              | (with_reducible refine Ord.at_nm ?_)
              | with_reducible refine Ord.top_two ?_ | with_reducible refine Ord.top_three ?_ | with_reducible refine Ord.at_two ?_ ?_ | with_reducible refine Ord.at_three ?_ ?_ ?_ | with_reducible refine Ord.tree_leaf ?_ | with_reducible refine Ord.tree_two ?_ | ((with_reducible refine Ord.at_calm ?_); refine Ord.calm_skip rfl ?_ (fun K hK => ?_); (focus (simp [Region.wanted, yielded]; done))) | with_reducible refine Ord.walk_calm rfl rfl (fun K hK => ?_) | ((with_reducible refine Ord.at_wild ?_); refine Ord.wild_fieldAddr rfl rfl (fun W => by simp [go_sem]; rfl) (fun K hK => ?_)) | ((with_reducible refine Ord.at_wild ?_); refine Ord.wild_move rfl rfl (fun K hK => ?_)) | ((with_reducible refine Ord.at_wild ?_); refine Ord.wild_nilCheck rfl rfl (fun K hK => ?_)) | with_reducible refine Ord.walk_eff rfl (by first | (simp; done) | assumption | (go_simp; done) | (repeat (first | assumption | exact Below.refl _ _ | refine Below.drew ?_ | refine Below.alloc ?_ (by first | omega | (simp; done) | (simp; omega)) _ | refine Below.setCell ?_ (by first | omega | (simp; done) | (simp; omega)) _ | refine Below.trans ?_ (Below.mono (by assumption) (by first | omega | (simp; done) | (simp; omega)))))) (fun K hK => ?_) | with_reducible refine Ord.at_fork ?_ ?_ | with_reducible refine Ord.walk_nil ?_ | (with_reducible refine Ord.next_of (by first | (simp; done) | (go_simp; done) | (repeat (first | assumption | exact Below.refl _ _ | refine Below.drew ?_ | refine Below.alloc ?_ (by first | omega | (simp; done) | (simp; omega)) _ | refine Below.setCell ?_ (by first | omega | (simp; done) | (simp; omega)) _ | refine Below.trans ?_ (Below.mono (by assumption) (by first | omega | (simp; done) | (simp; omega)))))) (fun _ => ?_)))
            go_meet
            exact ⟨_, _, ((b18b.set 3 _).set 0 _).set 2 _, CopyV.move ⟨a1, k1, rfl, hv1⟩ (fun g cur hg hb => ((hb.other (by show g ≠ p18; omega) _).other (by show g ≠ p18; omega) _).other (by show g ≠ p18; omega) _), CopyV.move ⟨a2, k2, rfl, hv2⟩ (fun g cur hg hb => ((hb.other (by show g ≠ p18; omega) _).other (by show g ≠ p18; omega) _).other (by show g ≠ p18; omega) _), ((hBb2.setCell (by simp) _).setCell (by simp) _).setCell (by simp) _⟩
  
          · refine wpList_copy rfl (.tmp 169) (.tmp 171) 22 rfl 70 i0 (.agg #[.bool false, .int .i64 0]) 16 Try.underlying22 hi0 hz0 hz1 hz2 rfl (by decide) w10.heap.size _ (by first | omega | (simp; done)) rfl (by first | exact Blk.new _ _ _ | exact (Blk.new _ _ _).alloc _ | exact Blk.new' _ _ _ _ (by simp)) plc_len plc_one rfl ((HMR.out _ (hBx _ (by (repeat (first | assumption | exact Below.refl _ _ | refine Below.drew ?_ | refine Below.alloc ?_ (by first | omega | (simp; done) | (simp; omega)) _ | refine Below.setCell ?_ (by first | omega | (simp; done) | (simp; omega)) _ | refine Below.trans ?_ (Below.mono (by assumption) (by first | omega | (simp; done) | (simp; omega)))))))).places) (by show ps.length ≤ 1000; omega) (by decide) (by first | omega | (simp; done) | (simp; omega)) ?_
            intro v1 wa hcv1 hba hoth
            have hBa : Below w10.heap.size w10 wa := Below.trans (by (repeat (first | assumption | exact Below.refl _ _ | refine Below.drew ?_ | refine Below.alloc ?_ (by first | omega | (simp; done) | (simp; omega)) _ | refine Below.setCell ?_ (by first | omega | (simp; done) | (simp; omega)) _ | refine Below.trans ?_ (Below.mono (by assumption) (by first | omega | (simp; done) | (simp; omega)))))) hba
            have hBa2 : Below p18 w10 wa := hBa.mono (by omega)
            have hsa := hBa.size
            have hE : Blk wa (w10.heap.size + 1) #[] 56 := hoth _ _ _ (Blk.new' _ _ _ _ (by simp)) (by simp)
            go_wp2_with (first
              | (at_builtin; refine at_stop ?_)
              | (with_reducible refine Ord.at_nm ?_)
              | with_reducible refine Ord.top_two ?_ | with_reducible refine Ord.top_three ?_ | with_reducible refine Ord.at_two ?_ ?_ | with_reducible refine Ord.at_three ?_ ?_ ?_ | with_reducible refine Ord.tree_leaf ?_ | with_reducible refine Ord.tree_two ?_ | ((with_reducible refine Ord.at_calm ?_); refine Ord.calm_skip rfl ?_ (fun K hK => ?_); (focus (simp [Region.wanted, yielded]; done))) | with_reducible refine Ord.walk_calm rfl rfl (fun K hK => ?_) | ((with_reducible refine Ord.at_wild ?_); refine Ord.wild_fieldAddr rfl rfl (fun W => by simp [go_sem]; rfl) (fun K hK => ?_)) | ((with_reducible refine Ord.at_wild ?_); refine Ord.wild_move rfl rfl (fun K hK => ?_)) | ((with_reducible refine Ord.at_wild ?_); refine Ord.wild_nilCheck rfl rfl (fun K hK => ?_)) | with_reducible refine Ord.walk_eff rfl (by first | (simp; done) | assumption | (go_simp; done) | (repeat (first | assumption | exact Below.refl _ _ | refine Below.drew ?_ | refine Below.alloc ?_ (by first | omega | (simp; done) | (simp; omega)) _ | refine Below.setCell ?_ (by first | omega | (simp; done) | (simp; omega)) _ | refine Below.trans ?_ (Below.mono (by assumption) (by first | omega | (simp; done) | (simp; omega)))))) (fun K hK => ?_) | with_reducible refine Ord.at_fork ?_ ?_ | with_reducible refine Ord.walk_nil ?_ | (with_reducible refine Ord.next_of (by first | (simp; done) | (go_simp; done) | (repeat (first | assumption | exact Below.refl _ _ | refine Below.drew ?_ | refine Below.alloc ?_ (by first | omega | (simp; done) | (simp; omega)) _ | refine Below.setCell ?_ (by first | omega | (simp; done) | (simp; omega)) _ | refine Below.trans ?_ (Below.mono (by assumption) (by first | omega | (simp; done) | (simp; omega)))))) (fun _ => ?_)))
            unfold Stop
            refine wpList_copy rfl (.tmp 173) (.tmp 175) 24 rfl 56 j0 (.agg #[.int .i64 0, .int .i64 0, .int .i64 0, .int .i64 0]) 32 Try.underlying24 hj0 kz0 kz1 kz2 rfl (by decide) w10.heap.size _ (by first | omega | (simp; done)) rfl hE i4c_len i4c_one rfl ((HMR.out _ (hBx _ (by (repeat (first | assumption | exact Below.refl _ _ | refine Below.drew ?_ | refine Below.alloc ?_ (by first | omega | (simp; done) | (simp; omega)) _ | refine Below.setCell ?_ (by first | omega | (simp; done) | (simp; omega)) _ | refine Below.trans ?_ (Below.mono (by assumption) (by first | omega | (simp; done) | (simp; omega)))))))).herds) (by show hs.length ≤ 1000; omega) (by decide) (by first | omega | (simp; done) | (simp; omega)) ?_
            intro v2 wb hcv2 hbb hoth2
            have hBb : Below w10.heap.size w10 wb := Below.trans (by (repeat (first | assumption | exact Below.refl _ _ | refine Below.drew ?_ | refine Below.alloc ?_ (by first | omega | (simp; done) | (simp; omega)) _ | refine Below.setCell ?_ (by first | omega | (simp; done) | (simp; omega)) _ | refine Below.trans ?_ (Below.mono (by assumption) (by first | omega | (simp; done) | (simp; omega)))))) hbb
            have hBb2 : Below p18 w10 wb := hBb.mono (by omega)
            have hcv1' := hcv1.move (w' := wb) (fun g cur hg hb => hoth2 _ _ _ hb (Blk.ne_type hb hE (by decide)))
            have b18b := b18.below hBb b18.lt
            obtain ⟨a1, k1, rfl, hv1⟩ := hcv1'
            obtain ⟨a2, k2, rfl, hv2⟩ := hcv2
            have r18 := b18b.cell
            have f18 := b18b.free
            have l18 := b18b.lt
            go_wp2_with (first
              | (with_reducible refine Ord.at_nm ?_)
              | with_reducible refine Ord.top_two ?_ | with_reducible refine Ord.top_three ?_ | with_reducible refine Ord.at_two ?_ ?_ | with_reducible refine Ord.at_three ?_ ?_ ?_ | with_reducible refine Ord.tree_leaf ?_ | with_reducible refine Ord.tree_two ?_ | ((with_reducible refine Ord.at_calm ?_); refine Ord.calm_skip rfl ?_ (fun K hK => ?_); (focus (simp [Region.wanted, yielded]; done))) | with_reducible refine Ord.walk_calm rfl rfl (fun K hK => ?_) | ((with_reducible refine Ord.at_wild ?_); refine Ord.wild_fieldAddr rfl rfl (fun W => by simp [go_sem]; rfl) (fun K hK => ?_)) | ((with_reducible refine Ord.at_wild ?_); refine Ord.wild_move rfl rfl (fun K hK => ?_)) | ((with_reducible refine Ord.at_wild ?_); refine Ord.wild_nilCheck rfl rfl (fun K hK => ?_)) | with_reducible refine Ord.walk_eff rfl (by first | (simp; done) | assumption | (go_simp; done) | (repeat (first | assumption | exact Below.refl _ _ | refine Below.drew ?_ | refine Below.alloc ?_ (by first | omega | (simp; done) | (simp; omega)) _ | refine Below.setCell ?_ (by first | omega | (simp; done) | (simp; omega)) _ | refine Below.trans ?_ (Below.mono (by assumption) (by first | omega | (simp; done) | (simp; omega)))))) (fun K hK => ?_) | with_reducible refine Ord.at_fork ?_ ?_ | with_reducible refine Ord.walk_nil ?_ | (with_reducible refine Ord.next_of (by first | (simp; done) | (go_simp; done) | (repeat (first | assumption | exact Below.refl _ _ | refine Below.drew ?_ | refine Below.alloc ?_ (by first | omega | (simp; done) | (simp; omega)) _ | refine Below.setCell ?_ (by first | omega | (simp; done) | (simp; omega)) _ | refine Below.trans ?_ (Below.mono (by assumption) (by first | omega | (simp; done) | (simp; omega)))))) (fun _ => ?_)))
            go_meet
            exact ⟨_, _, ((b18b.set 3 _).set 0 _).set 2 _, CopyV.move ⟨a1, k1, rfl, hv1⟩ (fun g cur hg hb => ((hb.other (by show g ≠ p18; omega) _).other (by show g ≠ p18; omega) _).other (by show g ≠ p18; omega) _), CopyV.move ⟨a2, k2, rfl, hv2⟩ (fun g cur hg hb => ((hb.other (by show g ≠ p18; omega) _).other (by show g ≠ p18; omega) _).other (by show g ≠ p18; omega) _), ((hBb2.setCell (by simp) _).setCell (by simp) _).setCell (by simp) _⟩
  
          · refine wpList_copy rfl (.tmp 169) (.tmp 171) 22 rfl 70 i0 (.agg #[.bool false, .int .i64 0]) 16 Try.underlying22 hi0 hz0 hz1 hz2 rfl (by decide) w10.heap.size _ (by first | omega | (simp; done)) rfl (by first | exact Blk.new _ _ _ | exact (Blk.new _ _ _).alloc _ | exact Blk.new' _ _ _ _ (by simp)) plc_len plc_one rfl ((HMR.out _ (hBx _ (by (repeat (first | assumption | exact Below.refl _ _ | refine Below.drew ?_ | refine Below.alloc ?_ (by first | omega | (simp; done) | (simp; omega)) _ | refine Below.setCell ?_ (by first | omega | (simp; done) | (simp; omega)) _ | refine Below.trans ?_ (Below.mono (by assumption) (by first | omega | (simp; done) | (simp; omega)))))))).places) (by show ps.length ≤ 1000; omega) (by decide) (by first | omega | (simp; done) | (simp; omega)) ?_
            intro v1 wa hcv1 hba hoth
            have hBa : Below w10.heap.size w10 wa := Below.trans (by (repeat (first | assumption | exact Below.refl _ _ | refine Below.drew ?_ | refine Below.alloc ?_ (by first | omega | (simp; done) | (simp; omega)) _ | refine Below.setCell ?_ (by first | omega | (simp; done) | (simp; omega)) _ | refine Below.trans ?_ (Below.mono (by assumption) (by first | omega | (simp; done) | (simp; omega)))))) hba
            have hBa2 : Below p18 w10 wa := hBa.mono (by omega)
            have hsa := hBa.size
            have hE : Blk wa w10.heap.size #[] 56 := hoth _ _ _ ((Blk.new _ _ _).alloc _) (by simp)
            go_wp2_with (first
              | (at_builtin; refine at_stop ?_)
              | (with_reducible refine Ord.at_nm ?_)
              | with_reducible refine Ord.top_two ?_ | with_reducible refine Ord.top_three ?_ | with_reducible refine Ord.at_two ?_ ?_ | with_reducible refine Ord.at_three ?_ ?_ ?_ | with_reducible refine Ord.tree_leaf ?_ | with_reducible refine Ord.tree_two ?_ | ((with_reducible refine Ord.at_calm ?_); refine Ord.calm_skip rfl ?_ (fun K hK => ?_); (focus (simp [Region.wanted, yielded]; done))) | with_reducible refine Ord.walk_calm rfl rfl (fun K hK => ?_) | ((with_reducible refine Ord.at_wild ?_); refine Ord.wild_fieldAddr rfl rfl (fun W => by simp [go_sem]; rfl) (fun K hK => ?_)) | ((with_reducible refine Ord.at_wild ?_); refine Ord.wild_move rfl rfl (fun K hK => ?_)) | ((with_reducible refine Ord.at_wild ?_); refine Ord.wild_nilCheck rfl rfl (fun K hK => ?_)) | with_reducible refine Ord.walk_eff rfl (by first | (simp; done) | assumption | (go_simp; done) | (repeat (first | assumption | exact Below.refl _ _ | refine Below.drew ?_ | refine Below.alloc ?_ (by first | omega | (simp; done) | (simp; omega)) _ | refine Below.setCell ?_ (by first | omega | (simp; done) | (simp; omega)) _ | refine Below.trans ?_ (Below.mono (by assumption) (by first | omega | (simp; done) | (simp; omega)))))) (fun K hK => ?_) | with_reducible refine Ord.at_fork ?_ ?_ | with_reducible refine Ord.walk_nil ?_ | (with_reducible refine Ord.next_of (by first | (simp; done) | (go_simp; done) | (repeat (first | assumption | exact Below.refl _ _ | refine Below.drew ?_ | refine Below.alloc ?_ (by first | omega | (simp; done) | (simp; omega)) _ | refine Below.setCell ?_ (by first | omega | (simp; done) | (simp; omega)) _ | refine Below.trans ?_ (Below.mono (by assumption) (by first | omega | (simp; done) | (simp; omega)))))) (fun _ => ?_)))
            unfold Stop
            refine wpList_copy rfl (.tmp 173) (.tmp 175) 24 rfl 56 j0 (.agg #[.int .i64 0, .int .i64 0, .int .i64 0, .int .i64 0]) 32 Try.underlying24 hj0 kz0 kz1 kz2 rfl (by decide) w10.heap.size _ (by first | omega | (simp; done)) rfl hE i4c_len i4c_one rfl ((HMR.out _ (hBx _ (by (repeat (first | assumption | exact Below.refl _ _ | refine Below.drew ?_ | refine Below.alloc ?_ (by first | omega | (simp; done) | (simp; omega)) _ | refine Below.setCell ?_ (by first | omega | (simp; done) | (simp; omega)) _ | refine Below.trans ?_ (Below.mono (by assumption) (by first | omega | (simp; done) | (simp; omega)))))))).herds) (by show hs.length ≤ 1000; omega) (by decide) (by first | omega | (simp; done) | (simp; omega)) ?_
            intro v2 wb hcv2 hbb hoth2
            have hBb : Below w10.heap.size w10 wb := Below.trans (by (repeat (first | assumption | exact Below.refl _ _ | refine Below.drew ?_ | refine Below.alloc ?_ (by first | omega | (simp; done) | (simp; omega)) _ | refine Below.setCell ?_ (by first | omega | (simp; done) | (simp; omega)) _ | refine Below.trans ?_ (Below.mono (by assumption) (by first | omega | (simp; done) | (simp; omega)))))) hbb
            have hBb2 : Below p18 w10 wb := hBb.mono (by omega)
            have hcv1' := hcv1.move (w' := wb) (fun g cur hg hb => hoth2 _ _ _ hb (Blk.ne_type hb hE (by decide)))
            have b18b := b18.below hBb b18.lt
            obtain ⟨a1, k1, rfl, hv1⟩ := hcv1'
            obtain ⟨a2, k2, rfl, hv2⟩ := hcv2
            have r18 := b18b.cell
            have f18 := b18b.free
            have l18 := b18b.lt
            go_wp2_with (first
              | (with_reducible refine Ord.at_nm ?_)
              | with_reducible refine Ord.top_two ?_ | with_reducible refine Ord.top_three ?_ | with_reducible refine Ord.at_two ?_ ?_ | with_reducible refine Ord.at_three ?_ ?_ ?_ | with_reducible refine Ord.tree_leaf ?_ | with_reducible refine Ord.tree_two ?_ | ((with_reducible refine Ord.at_calm ?_); refine Ord.calm_skip rfl ?_ (fun K hK => ?_); (focus (simp [Region.wanted, yielded]; done))) | with_reducible refine Ord.walk_calm rfl rfl (fun K hK => ?_) | ((with_reducible refine Ord.at_wild ?_); refine Ord.wild_fieldAddr rfl rfl (fun W => by simp [go_sem]; rfl) (fun K hK => ?_)) | ((with_reducible refine Ord.at_wild ?_); refine Ord.wild_move rfl rfl (fun K hK => ?_)) | ((with_reducible refine Ord.at_wild ?_); refine Ord.wild_nilCheck rfl rfl (fun K hK => ?_)) | with_reducible refine Ord.walk_eff rfl (by first | (simp; done) | assumption | (go_simp; done) | (repeat (first | assumption | exact Below.refl _ _ | refine Below.drew ?_ | refine Below.alloc ?_ (by first | omega | (simp; done) | (simp; omega)) _ | refine Below.setCell ?_ (by first | omega | (simp; done) | (simp; omega)) _ | refine Below.trans ?_ (Below.mono (by assumption) (by first | omega | (simp; done) | (simp; omega)))))) (fun K hK => ?_) | with_reducible refine Ord.at_fork ?_ ?_ | with_reducible refine Ord.walk_nil ?_ | (with_reducible refine Ord.next_of (by first | (simp; done) | (go_simp; done) | (repeat (first | assumption | exact Below.refl _ _ | refine Below.drew ?_ | refine Below.alloc ?_ (by first | omega | (simp; done) | (simp; omega)) _ | refine Below.setCell ?_ (by first | omega | (simp; done) | (simp; omega)) _ | refine Below.trans ?_ (Below.mono (by assumption) (by first | omega | (simp; done) | (simp; omega)))))) (fun _ => ?_)))
            go_meet
            exact ⟨_, _, ((b18b.set 3 _).set 0 _).set 2 _, CopyV.move ⟨a1, k1, rfl, hv1⟩ (fun g cur hg hb => ((hb.other (by show g ≠ p18; omega) _).other (by show g ≠ p18; omega) _).other (by show g ≠ p18; omega) _), CopyV.move ⟨a2, k2, rfl, hv2⟩ (fun g cur hg hb => ((hb.other (by show g ≠ p18; omega) _).other (by show g ≠ p18; omega) _).other (by show g ≠ p18; omega) _), ((hBb2.setCell (by simp) _).setCell (by simp) _).setCell (by simp) _⟩
  
      case rest =>
        obtain ⟨v1, v2, b18, hc1, hc2, hBx⟩ := hcut
        have hBz := hBx.size
        replace bb := bb.below hBx hlp
        replace b9 := b9.below hBx hl9
        replace hB := hB.trans (hBx.mono (by omega))
        obtain ⟨g1, k1, rfl, hg1, q1⟩ := hc1.blk hp2
        obtain ⟨g2, k2, rfl, hg2, q2⟩ := hc2.blk (by omega)
        have hX := X1.out wc _ k1 _ k2 (q1.rows plc_len) (HMR.out _ hB).legs (q2.rows i4c_len)
        have hz : p18 < z10 := by omega
        clear hz10 hc1 hc2 rb hs10 X1
        go_wp2_with (first
          | (refine wpList_load_blk 27 (.tmp 18) agg_mob rfl rfl rfl b18 rfl ?_)
          | (go_at_call 24; refine hX.mono ?_; rintro e w11 ⟨rfl, hb5⟩; replace bb := bb.below hb5 bb.lt; replace b9 := b9.below hb5 b9.lt; replace b18 := b18.below hb5 b18.lt; replace q1 := q1.move (fun _ hb => hb.below hb5 hb.lt); replace q2 := q2.move (fun _ hb => hb.below hb5 hb.lt); replace hB := hB.trans (hb5.mono hB.size); clear hb5; refine at_stop ?_))
        unfold Stop
        go_wp2_with (first
          | (refine wpList_store_blk 39 (.tmp 19) (.tmp 184) agg_span rfl rfl rfl rfl (Blk.new _ _ _) rfl rfl (by simp [Value.oneCell']) ?_; intro w12 h; refine at_stop ?_))
        unfold Stop
        have b19 := h.blk
        replace bb := h.other (bb.alloc _) (by have := bb.lt; omega)
        replace b9 := h.other (b9.alloc _) (by have := b9.lt; omega)
        replace b18 := h.other (b18.alloc _) (by have := b18.lt; omega)
        replace q1 := q1.move (fun _ hb => h.other (hb.alloc _) (by have := hb.lt; omega))
        replace q2 := q2.move (fun _ hb => h.other (hb.alloc _) (by have := hb.lt; omega))
        replace hB := h.below (hB.alloc hB.size _) hB.size
        generalize hp19 : w11.heap.size = p19 at *
        clear h
        clear hX
        have r18 := b18.cell
        have hlb := bb.lt
        have hl19 := b19.lt
        have hl18 := b18.lt
        have hl99 := b9.lt
        have hg1l := q1.lt
        have hg2l := q2.lt
        have hg12 : g1 ≠ g2 := q1.ne_type2 q2 (by decide)
        have hg19 : g1 ≠ p19 := RB.ne_type q1 b19 (by decide)
        have hg29 : g2 ≠ p19 := RB.ne_type q2 b19 (by decide)
        have hg1b : g1 ≠ w.heap.size ∧ g1 ≠ p9 ∧ g1 ≠ p18 := by omega
        have hg2b : g2 ≠ w.heap.size ∧ g2 ≠ p9 ∧ g2 ≠ p18 := by omega
        go_wp2_with fail
        go_loopw [21, 189] (fun x21 x189 wr => ∃ (p : Nat), p ≤ ps.length ∧ x189 = .int .i64 (p : Int) ∧ x21 = .int .i64 (lg p) ∧ Off [g1] w12.heap.size w12 wr ∧ RB wr g1 70 2 plc (updL restF ps p)) (fun _ x189 _ => ps.length - (intOf x189).toNat)
        case atStart => exact ⟨0, Nat.zero_le _, rfl, by rw [HLZ], Off.refl _ _ _, by rw [updL_zero]; exact q1⟩
        case round =>
          as_aux_lemma =>
            clear r18
            obtain ⟨p, hp, rfl, rfl, hO, q1r⟩ := hrel
            have b18r := hO.blk b18 hl18 (by simp; omega)
            have bbr := hO.blk bb hlb (by simp; omega)
            have b9r := hO.blk b9 hl99 (by simp; omega)
            have r18 := b18r.cell
            have hsO := hO.size
            have hBr : Below w.heap.size w wr := hB.trans (hO.below (by omega) (by simp; omega))
            by_cases hlt : p < ps.length
            · have hlti : (p : Int) < (ps.length : Int) := Int.ofNat_lt.2 hlt
              obtain ⟨hpu, hge⟩ := updL_get restF ps hlt
              obtain ⟨gx, gox, e0, c1, c2⟩ := (q1r.rows plc_len).getP hpu
              simp only [Option.some.injEq, Addr.mk.injEq] at e0
              obtain ⟨rfl, rfl, -⟩ := e0
              rw [hge] at c1 c2
              rw [Nat.zero_add] at c1 c2
              have fr := q1r.free
              have lr := q1r.lt
              have hpr := hplc.out ps[p] (List.getElem_mem hlt)
              go_upto_region 20 with fail
              go_cut [] from 192 to 204 (fun wx => Off [g1] w12.heap.size w12 wx ∧ RB wx g1 70 2 plc (updL restF ps (p + 1)))
              case first =>
                as_aux_lemma =>
                  have HU := Lib.hid (updL_succ restF ps hlt)
                  clear b9 b9r b19 b18r b18 bb bbr HMR X2 X3
                  generalize ps[p] = x at *
                  obtain ⟨x1, x2⟩ := x
                  simp only at c1 c2 hpr
                  refine Ord.wp_regionN [(0, 0), (1, 0), (2, 0), (3, 0), (4, 0), (5, 0), (6, 0), (7, 0), (8, 0), (9, 0), (10, 0), (11, 0), (12, 0), (13, 2)] (fun _ => True) (by kernel_rfl) (by kernel_rfl) trivial ?_
                  go_wp2_with (first
                    | (with_reducible refine Ord.at_nm ?_)
                    | ((with_reducible refine Ord.at_calm ?_); refine Ord.calm_skip rfl ?_ (fun K hK => ?_); (focus (simp [Region.wanted, yielded]; done))) | with_reducible refine Ord.walk_calm rfl rfl (fun K hK => ?_) | ((with_reducible refine Ord.at_wild ?_); refine Ord.wild_fieldAddr rfl rfl (fun W => by simp [go_sem]; rfl) (fun K hK => ?_)) | ((with_reducible refine Ord.at_wild ?_); refine Ord.wild_move rfl rfl (fun K hK => ?_)) | ((with_reducible refine Ord.at_wild ?_); refine Ord.wild_nilCheck rfl rfl (fun K hK => ?_)) | with_reducible refine Ord.walk_eff rfl (by first | (simp; done) | assumption | (go_simp; done) | (repeat (first | assumption | exact Below.refl _ _ | refine Below.drew ?_ | refine Below.alloc ?_ (by first | omega | (simp; done) | (simp; omega)) _ | refine Below.setCell ?_ (by first | omega | (simp; done) | (simp; omega)) _ | refine Below.trans ?_ (Below.mono (by assumption) (by first | omega | (simp; done) | (simp; omega)))))) (fun K hK => ?_) | with_reducible refine Ord.at_fork ?_ ?_ | with_reducible refine Ord.walk_nil ?_ | (with_reducible refine Ord.next_of (by first | (simp; done) | (go_simp; done) | (repeat (first | assumption | exact Below.refl _ _ | refine Below.drew ?_ | refine Below.alloc ?_ (by first | omega | (simp; done) | (simp; omega)) _ | refine Below.setCell ?_ (by first | omega | (simp; done) | (simp; omega)) _ | refine Below.trans ?_ (Below.mono (by assumption) (by first | omega | (simp; done) | (simp; omega)))))) (fun _ => ?_)))
                  go_meet
                  exact ⟨(hO.setCell (.inl (by simp)) _).drew, by rw [HU.out]; exact (q1r.set plc_len (x := restF (x1, x2)) hpu (by omega) (by rw [hge]; rfl) rfl).move (fun _ hb => hb.drew)⟩
              case rest =>
                obtain ⟨hO2, q1n⟩ := hcut
                have hBn : Below w.heap.size w wc := hB.trans (hO2.below (by omega) (by simp; omega))
                have bbn := hO2.blk bb hlb (by simp; omega)
                have b9n := hO2.blk b9 hl99 (by simp; omega)
                have rb := bbn.cell
                have r9 := b9n.cell
                have hL1 := HLG0.out p
                by_cases hll : p < ls.length
                · have hlli : (p : Int) < (ls.length : Int) := Int.ofNat_lt.2 hll
                  obtain ⟨gl, gol, hla, el1, el2⟩ := (HMR.out _ hBn).legs.get2 hll
                  simp only at hla
                  subst hla
                  have hlgd : ls.getD p (0, 0) = ls[p] := by rw [List.getD_eq_getElem?_getD, List.getElem?_eq_getElem hll]; rfl
                  have hli := hlegs.out p hll
                  rw [hlgd] at hL1 hli
                  generalize ls[p] = x at *
                  obtain ⟨x1, x2⟩ := x
                  simp only at el1 el2 hL1 hli
                  have hlgb := HLG.out p
                  by_cases hdp : d1 ≤ (p : Int)
                  · rw [if_pos ⟨hll, by omega⟩] at hL1
                    have HL1 := Lib.hid hL1
                    clear hL1 hlgd
                    go_wp2_with fail
                    exact ⟨⟨p + 1, by omega, by go_num, by rw [HL1.out], hO2, q1n⟩, by simp [intOf]; omega⟩
                  · rw [if_neg (by omega)] at hL1
                    have HL1 := Lib.hid hL1
                    clear hL1 hlgd
                    go_wp2_with fail
                    exact ⟨⟨p + 1, by omega, by go_num, by rw [HL1.out], hO2, q1n⟩, by simp [intOf]; omega⟩
                · have hlli : ¬ (p : Int) < (ls.length : Int) := by omega
                  rw [if_neg (by omega)] at hL1
                  have HL1 := Lib.hid hL1
                  clear hL1
                  go_wp2_with fail
                  exact ⟨⟨p + 1, by omega, by go_num, by rw [HL1.out], hO2, q1n⟩, by simp [intOf]; omega⟩
            · have hlti : ¬ (p : Int) < (ps.length : Int) := by omega
              obtain rfl : p = ps.length := by omega
              rw [updL_all] at q1r
              have b19r := hO.blk b19 hl19 (by simp; omega)
              have q2r := q2.move (fun _ hb => hO.blk hb hb.lt (by simp; omega))
              clear q1 q2 b9 b9r b18 bb b19 HLG0 hO hB
              obtain ⟨gx, gox, e0, c1, c2, c3, c4⟩ := (q2r.rows i4c_len).get4 hi
              simp only [Option.some.injEq, Addr.mk.injEq] at e0
              obtain ⟨rfl, rfl, -⟩ := e0
              rw [hsi] at c1 c2 c3 c4
              rw [Nat.zero_add] at c1 c2 c3 c4
              simp only at c1 c2 c3 c4
              have f2 := q2r.free
              have l2 := q2r.lt
              go_upto_if 239 with fail
              go_cut [] from 225 to 257 (fun wx => Off [g2] wr.heap.size wr wx ∧ RB wx g2 56 4 i4c hs')
              case first =>
                as_aux_lemma =>
                  clear X2 X3 HMR HA bbr b18r b19r q1r
                  by_cases hc : d3 + (n : Int) ≤ 30
                  · rw [if_pos hc] at hlate
                    have hwn : IntKind.i64.wrap (d3 + (n : Int)) = d3 + (n : Int) := wrapI (by omega)
                    go_wp2_with fail
                    refine Ord.wp_regionN [(0, 0), (1, 1), (2, 0), (3, 0), (4, 0), (5, 0), (6, 0), (7, 0), (8, 0), (9, 0), (10, 0), (11, 0), (12, 1), (13, 1), (14, 0), (15, 0), (16, 2), (17, 0), (18, 0), (19, 2)] (fun _ => True) (by kernel_rfl) (by kernel_rfl) trivial ?_
                    go_wp2_with (first
                      | (with_reducible refine Ord.at_nm ?_)
                      | ((with_reducible refine Ord.at_wild ?_); refine Ord.walk_wild_as rfl (.int .i64 (d3 + (n : Int))) ?_ ?_; (focus (intro W hW; simp [go_sem, Ord.yields, Ord.yieldUpon, hwn]; done)); intro K hK)
                      | ((with_reducible refine Ord.at_calm ?_); refine Ord.calm_skip rfl ?_ (fun K hK => ?_); (focus (simp [Region.wanted, yielded]; done))) | with_reducible refine Ord.walk_calm rfl rfl (fun K hK => ?_) | ((with_reducible refine Ord.at_wild ?_); refine Ord.wild_fieldAddr rfl rfl (fun W => by simp [go_sem]; rfl) (fun K hK => ?_)) | ((with_reducible refine Ord.at_wild ?_); refine Ord.wild_move rfl rfl (fun K hK => ?_)) | ((with_reducible refine Ord.at_wild ?_); refine Ord.wild_nilCheck rfl rfl (fun K hK => ?_)) | with_reducible refine Ord.walk_eff rfl (by first | (simp; done) | assumption | (go_simp; done) | (repeat (first | assumption | exact Below.refl _ _ | refine Below.drew ?_ | refine Below.alloc ?_ (by first | omega | (simp; done) | (simp; omega)) _ | refine Below.setCell ?_ (by first | omega | (simp; done) | (simp; omega)) _ | refine Below.trans ?_ (Below.mono (by assumption) (by first | omega | (simp; done) | (simp; omega)))))) (fun K hK => ?_) | with_reducible refine Ord.at_fork ?_ ?_ | with_reducible refine Ord.walk_nil ?_ | (with_reducible refine Ord.next_of (by first | (simp; done) | (go_simp; done) | (repeat (first | assumption | exact Below.refl _ _ | refine Below.drew ?_ | refine Below.alloc ?_ (by first | omega | (simp; done) | (simp; omega)) _ | refine Below.setCell ?_ (by first | omega | (simp; done) | (simp; omega)) _ | refine Below.trans ?_ (Below.mono (by assumption) (by first | omega | (simp; done) | (simp; omega)))))) (fun _ => ?_)))
                    go_meet
                    rw [hlate]
                    have e := ((q2r.move (fun _ hb => hb.drew)).set i4c_len (i := i) (j := 1) (x := (d1, d2 + (n : Int), d3, d4)) (v := .int .i64 (d2 + (n : Int))) hi (by omega) (by rw [hsi]; rfl) rfl).set i4c_len (i := i) (j := 2) (x := (d1, d2 + (n : Int), d3 + (n : Int), d4)) (v := .int .i64 (d3 + (n : Int))) (by simpa using hi) (by omega) (by simp; rfl) rfl
                    rw [List.set_set] at e
                    exact ⟨((Off.refl _ _ _).drew.setCell (.inl (by simp)) _).setCell (.inl (by simp)) _, e⟩
                  · rw [if_neg hc] at hlate
                    go_wp2_with fail
                    go_meet
                    exact ⟨Off.refl _ _ _, by rw [hlate]; exact q2r⟩
              case rest =>
                obtain ⟨hOw, q2⟩ := hcut
                have hsw := hOw.size
                have hBw : Below w.heap.size w wc := hBr.trans (hOw.below (by omega) (by simp; omega))
                have bb := hOw.blk bbr bbr.lt (by simp; omega)
                have b18 := hOw.blk b18r b18r.lt (by simp; omega)
                have b19 := hOw.blk b19r b19r.lt (by simp; omega)
                have q1 := q1r.move (fun _ hb => hOw.blk hb hb.lt (by simp; exact hg12))
                have hB := hBw
                clear hBw hBr hOw bbr b18r b19r q1r q2r hlate r18 c1 c2 c3 c4 f2
                have hX := X2.out wc _ k1 _ k2 (q1.rows plc_len) (HMR.out _ hB).legs (q2.rows i4c_len)
                clear X2
                go_wp2_with (first
                  | (refine wpList_load_blk 27 (.tmp 18) agg_mob rfl rfl rfl b18 rfl ?_)
                  | (go_at_call 24; refine hX.mono ?_; rintro e w13 ⟨rfl, hb5⟩; replace bb := bb.below hb5 bb.lt; replace b18 := b18.below hb5 b18.lt; replace b19 := b19.below hb5 b19.lt; replace q1 := q1.move (fun _ hb => hb.below hb5 hb.lt); replace q2 := q2.move (fun _ hb => hb.below hb5 hb.lt); replace hB := hB.trans (hb5.mono hB.size); clear hb5; refine at_stop ?_))
                unfold Stop
                go_wp2_with (first
                  | (refine wpList_store_blk 39 (.tmp 25) (.tmp 262) agg_span rfl rfl rfl rfl (Blk.new _ _ _) rfl rfl (by simp [Value.oneCell']) ?_; intro w14 h; refine at_stop ?_))
                unfold Stop
                have b25 := h.blk
                replace bb := h.other (bb.alloc _) (by have := bb.lt; omega)
                replace b18 := h.other (b18.alloc _) (by have := b18.lt; omega)
                replace b19 := h.other (b19.alloc _) (by have := b19.lt; omega)
                replace q1 := q1.move (fun _ hb => h.other (hb.alloc _) (by have := hb.lt; omega))
                replace q2 := q2.move (fun _ hb => h.other (hb.alloc _) (by have := hb.lt; omega))
                replace hB := h.below (hB.alloc hB.size _) hB.size
                generalize hp25 : w13.heap.size = p25 at *
                clear h
                clear hX
                have r18 := b18.cell
                have hl18 := b18.lt
                have hl19 := b19.lt
                have hl25 := b25.lt
                have hg1l := q1.lt
                have hg2l := q2.lt
                have hg25 : g1 ≠ p25 := RB.ne_type q1 b25 (by decide)
                go_wp2_with fail
                go_loopw [267] (fun x267 wr => ∃ (p : Nat), p ≤ ps.length ∧ x267 = .int .i64 (p : Int) ∧ Off [g1] w14.heap.size w14 wr ∧ RB wr g1 70 2 plc (updL wetF (ps.map restF) p)) (fun x267 _ => ps.length - (intOf x267).toNat)
                case atStart => exact ⟨0, Nat.zero_le _, rfl, Off.refl _ _ _, by rw [updL_zero]; exact q1⟩
                case round =>
                  as_aux_lemma =>
                    clear r18
                    obtain ⟨p, hp, rfl, hO, q1r⟩ := hrel
                    have b18r := hO.blk b18 hl18 (by simp; omega)
                    have r18 := b18r.cell
                    have hsO := hO.size
                    by_cases hlt : p < ps.length
                    · have hlti : (p : Int) < (ps.length : Int) := Int.ofNat_lt.2 hlt
                      have hpl : p < (ps.map restF).length := by simpa using hlt
                      obtain ⟨hpu, hge⟩ := updL_get wetF (ps.map restF) hpl
                      obtain ⟨gx, gox, e0, c1, c2⟩ := (q1r.rows plc_len).getP hpu
                      simp only [Option.some.injEq, Addr.mk.injEq] at e0
                      obtain ⟨rfl, rfl, -⟩ := e0
                      rw [hge] at c1 c2
                      rw [Nat.zero_add] at c1 c2
                      have fr := q1r.free
                      have lr := q1r.lt
                      have HU := Lib.hid (updL_succ wetF (ps.map restF) (by simpa using hlt))
                      generalize (ps.map restF)[p] = x at *
                      obtain ⟨x1, x2⟩ := x
                      simp only at c1 c2
                      go_wp2_with fail
                      exact ⟨⟨p + 1, by omega, by go_num, hO.setCell (.inl (by simp)) _, by rw [HU.out]; exact q1r.set plc_len (j := 0) (x := wetF (x1, x2)) hpu (by omega) (by rw [hge]; rfl) rfl⟩, by simp [intOf]; omega⟩
                    · have hlti : ¬ (p : Int) < (ps.length : Int) := by omega
                      obtain rfl : p = ps.length := by omega
                      have q1e : RB wr g1 70 2 plc ((ps.map restF).map wetF) := by
                        have := updL_all wetF (ps.map restF)
                        rw [List.length_map] at this
                        rw [← this]; exact q1r
                      have b19n := hO.blk b19 hl19 (by simp; omega)
                      have b25n := hO.blk b25 hl25 (by simp; omega)
                      have q2n := q2.move (fun _ hb => hO.blk hb hb.lt (by simp; exact fun e => hg12 e.symm))
                      have hBr : Below w.heap.size w wr := hB.trans (hO.below (by omega) (by simp; omega))
                      clear q1 q2 b18 b19 b25 bb hB q1r hO r18
                      have hX := X3.out wr _ k1 _ k2 (q1e.rows plc_len) (HMR.out _ hBr).legs (q2n.rows i4c_len)
                      have hB := hBr
                      clear hBr X3
                      clear HMR
                      go_wp2_with (first
                        | (refine wpList_load_blk 27 (.tmp 18) agg_mob rfl rfl rfl b18r rfl ?_)
                        | (go_at_call 24; refine hX.mono ?_; rintro e w15 ⟨rfl, hb5⟩; replace b19n := b19n.below hb5 b19n.lt; replace b25n := b25n.below hb5 b25n.lt; replace hB := hB.trans (hb5.mono hB.size); clear hb5; refine at_stop ?_))
                      unfold Stop
                      go_wp2_with (first
                        | (refine wpList_store_blk 39 (.tmp 28) (.tmp 280) agg_span rfl rfl rfl rfl (Blk.new _ _ _) rfl rfl (by simp [Value.oneCell']) ?_; intro w16 h; refine at_stop ?_))
                      unfold Stop
                      have b28 := h.blk
                      replace b19n := h.other (b19n.alloc _) (by have := b19n.lt; omega)
                      replace b25n := h.other (b25n.alloc _) (by have := b25n.lt; omega)
                      replace hB := h.below (hB.alloc hB.size _) hB.size
                      generalize hp28 : w15.heap.size = p28 at *
                      clear h hX
                      have r19 := b19n.cell
                      have r25 := b25n.cell
                      have r28 := b28.cell
                      go_wp2_with (first
                        | (go_at_call 12; refine (HA.out _).mono ?_; rintro e w17 ⟨rfl, hb17⟩))
                      (try go_ret)
                      exact ⟨rfl, hB.trans (hb17.mono hB.size)⟩
end Go.Proofs.Yteeinehpneppnaa
