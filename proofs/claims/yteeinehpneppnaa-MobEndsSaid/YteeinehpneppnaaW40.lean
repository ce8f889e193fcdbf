/- Parts of a proof: MuB. -/
import Derived.Test.YteeinehpneppnaaW38
import Derived.Test.YteeinehpneppnaaW39
/- The law MobEnds walked: valid ways with mobs. (Printed by mkMuB.py) -/
set_option linter.unusedVariables false
namespace Go.Ord
/-- A read that is wanted: its guard is struck. -/
theorem walk_calm_g {P : Program} {lo : List Oper} {Q : Exit → Act → World → Prop} {H : World → Prop} {k : Nat} {l : List (Nat × Nat)} {a : Act} {w : World} {o : Oper} (ho : lo[k]? = some o) (hr : isRead o.op = true) (hw : Region.wanted o (yielded lo.toArray a.tmps) = true)
    (h : ∀ K : Act → World → Prop, (∀ a, walk P lo.toArray H Q l a w → K a w) → wpList P lo.toArray (Exit.then K (fun _ _ _ => False)) [{ o with guard := none }] a w) : walk P lo.toArray H Q ((k, 0) :: l) a w := by
  refine walk_calm ho hr fun K hK => ?_
  have h1 := h K hK
  simp only [wpList] at h1 ⊢
  have hw2 : Region.wanted { o with guard := none } (yielded lo.toArray a.tmps) = true := by simp [Region.wanted]
  rw [hw2] at h1
  rw [hw]
  simp only [if_true] at h1 ⊢
  exact h1
/-- An effect that is wanted: its guard is struck. -/
theorem walk_eff_g {P : Program} {lo : List Oper} {Q : Exit → Act → World → Prop} {H : World → Prop} {k : Nat} {l : List (Nat × Nat)} {a : Act} {w : World} {o : Oper} (ho : lo[k]? = some o) (hH : H w) (hw : Region.wanted o (yielded lo.toArray a.tmps) = true)
    (h : ∀ K : Act → World → Prop, (∀ a w, next P lo.toArray H Q l a w → K a w) → wpList P lo.toArray (Exit.then K Q) [{ o with guard := none }] a w) : walk P lo.toArray H Q ((k, 2) :: l) a w := by
  refine walk_eff ho hH fun K hK => ?_
  have h1 := h K hK
  simp only [wpList] at h1 ⊢
  have hw2 : Region.wanted { o with guard := none } (yielded lo.toArray a.tmps) = true := by simp [Region.wanted]
  rw [hw2] at h1
  rw [hw]
  simp only [if_true] at h1 ⊢
  exact h1
end Go.Ord
set_option linter.unusedVariables false
set_option linter.unusedSimpArgs false
namespace Go.Proofs.Yteeinehpneppnaa
open Go.RowKit Go.Proofs
attribute [local irreducible] Ord.walk
theorem yields_lookup {o : Oper} {a : Act} {W : World} {x y : Operand} {mp : Nat} {k v : Int} (ho : o.op = .lookup 57 x y false) (hx : a.eval x = .map (some mp)) (hy : a.eval y = .int .i64 k) (h : (Instr.lookup 57 (.map (some mp)) (.int .i64 k) false).run Try.prog W = .ok (.int .i64 v) W) : Ord.yields Try.prog o a W (.int .i64 v) := by
  unfold Ord.yields
  simp [execOp, ho, hx, hy, h, Ord.yieldUpon]
theorem yields_extract {o : Oper} {a : Act} {W : World} {x : Operand} {ix : Nat} {vs : Array Value} {v : Value} (ho : o.op = .extract x ix) (hx : a.eval x = .tuple vs) (hv : vs[ix]? = some v) : Ord.yields Try.prog o a W v := by
  unfold Ord.yields
  simp [execOp, ho, hx, hv, Instr.extract, Ord.yieldUpon]
theorem ownsRow_drew {w : World} {base : Nat} {e : TypeId} {size : Nat} {v : Value} {n : Nat} {xs : List Value} (h : w.ownsRow base e size v n xs) : w.drew.ownsRow base e size v n xs := h
set_option maxHeartbeats 40000000 in
set_option maxRecDepth 100000 in
theorem w_Ends_main (m : Mb) (A : Ma) (n1 n2 : Nat) (hn1 : n1 < 256) (hn2 : n2 < 256) (w : World) (hm : MbAt w m A) (hv : validM m = true) (hh : 0 < m.herds.length) :
    Calls Try.prog 6 #[mv m A, .int .u8 n1, .int .u8 n2] w (Gives (.bool true) w) := by
  have hln := validM_len hv
  have HL : Hid (∀ W, Calls Try.prog 27 #[mv m A] W (Gives (.bool false) W)) := fun W => by
    have := l_long m A W (by unfold maxLen; omega) (by unfold maxLen; omega) (by unfold maxLen; omega) (by unfold maxLen; omega)
    rwa [longB_ok hv] at this
  have HBn : Hid (∀ W, Below w.heap.size w W → Calls Try.prog 28 #[mv m A] W (Gives (.bool true) W)) := fun W hb => by
    have := r_mob m A (long_len (longB_ok hv)) W (hm.below hb)
    rwa [hv] at this
  obtain ⟨i, hie⟩ : ∃ i, n1 % m.herds.length = i := ⟨_, rfl⟩
  have hi : i < m.herds.length := by rw [← hie]; exact Nat.mod_lt _ hh
  have hst := start_le hv hi
  have hM := long_len (longB_ok hv)
  have hgi : m.herds.getD i (0, 0, 0, 0) = m.herds[i] := by rw [List.getD_eq_getElem?_getD, List.getElem?_eq_getElem hi]; rfl
  have hstart : m.herds[i].1 = (startN m i : Int) := by rw [← hst.2]; unfold startI; rw [Int.toNat_natCast, ← List.getD_eq_getElem?_getD, hgi]
  obtain ⟨D, hD⟩ : ∃ D, m.places.length - startN m i = D := ⟨_, rfl⟩
  obtain ⟨q, hqe⟩ : ∃ q, n2 % D = q := ⟨_, rfl⟩
  have hq : q < D := by rw [← hqe]; exact Nat.mod_lt _ (by omega)
  obtain ⟨p, hp⟩ : ∃ p, startN m i + q = p := ⟨_, rfl⟩
  have hr1 : (n1 : Int).tmod (m.herds.length : Int) = (i : Int) := by rw [← hie, Int.tmod_eq_emod_of_nonneg (by omega)]; rfl
  have hDi : (m.places.length : Int) - (startN m i : Int) = (D : Int) := by omega
  have hr2 : (n2 : Int).tmod (D : Int) = (q : Int) := by rw [← hqe, Int.tmod_eq_emod_of_nonneg (by omega)]; rfl
  have hpq : (startN m i : Int) + (q : Int) = (p : Int) := by omega
  have hp1 : startN m i ≤ p := by omega
  have hp2 : p < m.places.length := by omega
  obtain ⟨lo, hi', k, x, j, HE⟩ := ef hv hi hp1 hp2
  have hcase := HE.case
  have hbd := bare_days hv hi hp2
  have J1 : Hid (∀ W, Below w.heap.size w W → Calls Try.prog 23 #[mv m A, .int .i64 (m.herds.length : Int), .int .i64 0] W (Gives2 (.int .i64 0) (.int .i64 2) W)) := fun W hb => by
    have := m_Where (A := A) m.herds.length 0 W hM (hm.below hb)
    rwa [no_where hv (by unfold herdB inB; simp; omega)] at this
  have J2 : Hid (∀ W, Below w.heap.size w W → Calls Try.prog 15 #[mv m A, .int .i64 101] W (Gives3 (.int .i64 0) (.int .i64 0) (.int .i64 2) W)) := fun W hb => by
    have := m_There (A := A) 101 W hM (hm.below hb)
    rwa [no_there hv (by decide)] at this
  have J3 : Hid (∀ W, Below w.heap.size w W → Calls Try.prog 24 #[mv m A, .int .i64 (-1)] W (Gives2 (.agg #[.int .i64 0, .int .i64 0]) (.int .i64 2) W)) := fun W hb => by
    have := m_Stretch (A := A) (-1) W hM (hm.below hb)
    rw [no_stretch hv (by unfold herdB inB; simp)] at this
    exact this
  have J4 : Hid (∀ W, Below w.heap.size w W → Calls Try.prog 22 #[mv m A, .int .i64 (i : Int), .int .i64 (p : Int)] W (Gives2 (.agg #[.int .i64 lo, .int .i64 hi']) (.int .i64 k) W)) := fun W hb => by
    have := m_Comes (A := A) i p W hM (hm.below hb); rw [HE.comes] at this; exact this
  have J5 : Hid (∀ W, Below w.heap.size w W → Calls Try.prog 17 #[mv m A] W (Gives2 (.int .i64 x) (.int .i64 j) W)) := fun W hb => by
    have := m_Clash (A := A) W hM (hm.below hb); rw [HE.clash] at this; exact this
  have J6 : Hid (∀ W, Below w.heap.size w W → Calls Try.prog 22 #[mv m A, .int .i64 (i : Int), .int .i64 ((startN m i : Int) - 1)] W (Gives2 (.agg #[.int .i64 0, .int .i64 0]) (.int .i64 2) W)) := fun W hb => by
    have := m_Comes (A := A) i ((startN m i : Int) - 1) W hM (hm.below hb); rw [← hst.2, HE.no1] at this; rw [← hst.2]; exact this
  have J7 : Hid (∀ W, Below w.heap.size w W → Calls Try.prog 22 #[mv m A, .int .i64 (i : Int), .int .i64 (m.places.length : Int)] W (Gives2 (.agg #[.int .i64 0, .int .i64 0]) (.int .i64 2) W)) := fun W hb => by
    have := m_Comes (A := A) i m.places.length W hM (hm.below hb); rw [HE.no2] at this; exact this
  have J8 : Hid (∀ W, Below w.heap.size w W → Calls Try.prog 23 #[mv m A, .int .i64 (i : Int), .int .i64 (-1)] W (Gives2 (.int .i64 0) (.int .i64 2) W)) := fun W hb => by
    have := m_Where (A := A) i (-1) W hM (hm.below hb)
    rwa [no_where hv (by rw [show inB (-1) 0 100 = false from by decide]; simp)] at this
  have J9 : Hid (∀ W, Below w.heap.size w W → Calls Try.prog 13 #[mv m A, .int .i64 (i : Int), .int .i64 (m.herds.length : Int)] W (Gives2 (.int .i64 0) (.int .i64 2) W)) := fun W hb => by
    have := m_Ahead (A := A) i m.herds.length W hM (hm.below hb)
    rwa [no_ahead hv (by unfold herdB inB; simp; omega)] at this
  have X1 : Hid (∀ W, Below w.heap.size w W → Calls Try.prog 22 #[.agg #[.slice A.pa m.places.length A.pc, .slice A.la m.legs.length A.lc, .slice A.ha m.herds.length A.hc, .slice none 0 0], .int .i64 (i : Int), .int .i64 (p : Int)] W (Gives2 (.agg #[.int .i64 (inK m (lowL m) (startN m i) m.herds[i].2.1 q), .int .i64 (inK m (highL m) (startN m i) m.herds[i].2.2.1 q)]) (.int .i64 0) W)) := fun W hb => by
    have h1 := hm.below hb
    have := m_Comes (m := bareM m) (A := ⟨A.pa, A.pc, A.la, A.lc, A.ha, A.hc, none, 0⟩) i p W ⟨hM.places, hM.legs, hM.herds, by simp [bareM]⟩ ⟨h1.places, h1.legs, h1.herds, rows_nil _⟩
    rw [comes_ok (bare_valid hv) (fromB_of (m := bareM m) hi (by show startI m i ≤ p; omega) hp2) (bare_known (bare_valid hv) rfl (vb := true) rfl).2.1, hbd, hgi, show p - startN m i = q by omega] at this
    exact this
  have hb2 := (vparts hv).hd _ (List.getElem_mem hi)
  obtain ⟨M1, hM1⟩ : ∃ M1 : World → Nat → Prop, M1 = fun W mp => MapII W mp (tripL m (lowL m) (startN m i) m.herds[i].2.1 (m.places.length - 1 - startN m i)) := ⟨_, rfl⟩
  obtain ⟨M2, hM2⟩ : ∃ M2 : World → Nat → Prop, M2 = fun W mp => MapII W mp (tripL m (highL m) (startN m i) m.herds[i].2.2.1 (m.places.length - 1 - startN m i)) := ⟨_, rfl⟩
  have T1 : Hid (∀ W a c, Below w.heap.size w W → IntsM W a (lowL m) → Calls Try.prog 31 #[mv m A, .int .i64 (i : Int), .slice a m.legs.length c, .int .i64 m.herds[i].2.1] W (fun e w' => ∃ mp s0, e = .returned (.tuple #[.map (some mp), .int .i64 s0]) ∧ M1 w' mp ∧ W.heap.size ≤ mp ∧ Below W.heap.size W w')) := fun W a c hb hr => by
    have := l_trip (A := A) i c m.herds[i].2.1 W (hm.below hb) hv hi (legs_lo hv).1 hr (by omega) (by omega)
    rw [show (List.map (·.1) m.legs).length = m.legs.length by simp] at this
    refine this.mono ?_
    rintro e w' ⟨mp, h1, h2, h3, h4⟩
    exact ⟨mp, _, h1, by rw [hM1]; exact h2, h3, h4⟩
  have T2 : Hid (∀ W a c, Below w.heap.size w W → IntsM W a (highL m) → Calls Try.prog 31 #[mv m A, .int .i64 (i : Int), .slice a m.legs.length c, .int .i64 m.herds[i].2.2.1] W (fun e w' => ∃ mp s0, e = .returned (.tuple #[.map (some mp), .int .i64 s0]) ∧ M2 w' mp ∧ W.heap.size ≤ mp ∧ Below W.heap.size W w')) := fun W a c hb hr => by
    have := l_trip (A := A) i c m.herds[i].2.2.1 W (hm.below hb) hv hi (legs_lo hv).2 hr (by omega) (by omega)
    rw [show (List.map (·.2) m.legs).length = m.legs.length by simp] at this
    refine this.mono ?_
    rintro e w' ⟨mp, h1, h2, h3, h4⟩
    exact ⟨mp, _, h1, by rw [hM2]; exact h2, h3, h4⟩
  have HG : ∀ W mp L d, MapII W mp (tripL m L (startN m i) d (m.places.length - 1 - startN m i)) → (Instr.lookup 57 (.map (some mp)) (.int .i64 (p : Int)) false).run Try.prog W = .ok (.int .i64 (inK m L (startN m i) d q)) W := fun W mp L d h => by
    have := run_lookup_int h (tripL_ok m L (startN m i) d _ (by omega)) (x := (p : Int)) ⟨by omega, by omega⟩
    rwa [← hp, tripL_get m L (startN m i) d (by omega) (show q ≤ m.places.length - 1 - startN m i by omega), hp] at this
  have G1 : Hid (∀ W mp, M1 W mp → (Instr.lookup 57 (.map (some mp)) (.int .i64 (p : Int)) false).run Try.prog W = .ok (.int .i64 (inK m (lowL m) (startN m i) m.herds[i].2.1 q)) W) := fun W mp h => by rw [hM1] at h; exact HG _ _ _ _ h
  have G2 : Hid (∀ W mp, M2 W mp → (Instr.lookup 57 (.map (some mp)) (.int .i64 (p : Int)) false).run Try.prog W = .ok (.int .i64 (inK m (highL m) (startN m i) m.herds[i].2.2.1 q)) W) := fun W mp h => by rw [hM2] at h; exact HG _ _ _ _ h
  have K1 : Hid (∀ W W' mp, M1 W mp → W'.heap[mp]? = W.heap[mp]? → M1 W' mp ∧ mp < W.heap.size) := fun W W' mp h e => by rw [hM1] at h ⊢; exact ⟨e.trans h, h.lt⟩
  have K2 : Hid (∀ W W' mp, M2 W mp → W'.heap[mp]? = W.heap[mp]? → M2 W' mp ∧ mp < W.heap.size) := fun W W' mp h e => by rw [hM2] at h ⊢; exact ⟨e.trans h, h.lt⟩
  obtain ⟨cw, hcw⟩ : ∃ cw : Int → (Int × Int) × Int, ∀ d, comesR (withM m (i, p, d, d)) i p = cw d := ⟨_, fun _ => rfl⟩
  simp only [hcw] at hcase
  have Y2 : Hid (∀ W d, Below w.heap.size w W → Calls Try.prog 33 #[mv m A, .agg #[.int .i64 (i : Int), .int .i64 (p : Int), .int .i64 d, .int .i64 d]] W (fun e w' => ∃ v, e = .returned v ∧ Below W.heap.size W w' ∧ ∀ W', Below w'.heap.size w' W' → Calls Try.prog 22 #[v, .int .i64 (i : Int), .int .i64 (p : Int)] W' (Gives2 (.agg #[.int .i64 (cw d).1.1, .int .i64 (cw d).1.2]) (.int .i64 (cw d).2) W'))) := fun W d hb => by
    refine (l_with m A (i, p, d, d) W (hm.below hb) (by omega)).mono ?_
    rintro e w' ⟨B, h1, h2, h3⟩
    refine ⟨_, h1, h3, fun W' hW' => ?_⟩
    have := m_Comes (m := withM m (i, p, d, d)) (A := B) i p W' ⟨hM.places, hM.legs, hM.herds, by simp [withM]; omega⟩ (h2.below hW')
    rw [hcw] at this
    exact this
  have HA := Lib.hid l_alive
  have HSp := Lib.hid l_span
  have HSe := Lib.hid l_seen
  have HIn := Lib.hid l_inside
  obtain ⟨i0, hi0, hz0, hz1, hz2⟩ := info_of Try.info3
  have hrng := (vparts hv).hd _ (List.getElem_mem hi)
  have hll : (lowL m).length = m.legs.length ∧ (highL m).length = m.legs.length := by simp [lowL, highL]
  have HLo : Hid (∀ k, (h : k < m.legs.length) → (lowL m)[k]? = some m.legs[k].1 ∧ (highL m)[k]? = some m.legs[k].2) := fun k h => by simp [lowL, highL, h]
  have hlgb := Lib.hid (vparts hv).lg
  have hlegs := hm.legs
  have HMR : Hid (∀ W, Below w.heap.size w W → MbAt W m A) := fun W h => hm.below h
  generalize inK m (lowL m) (startN m i) m.herds[i].2.1 q = va at *
  generalize inK m (highL m) (startN m i) m.herds[i].2.2.1 q = vb at *
  generalize lowL m = low at *
  generalize highL m = high at *
  generalize startN m i = st at *
  clear hie hqe hM1 hM2 hbd HG hcw HE hst hgi hv hM hD hp
  rcases A with ⟨pa, pc, la, lc, ha, hc, sa, sc⟩
  rcases m with ⟨ps, ls, hs, ss⟩
  unfold mv mcells at *
  simp only at *
  have hp6 : (ps.length : Int) ≤ 6 := by omega
  have hl5 : (ls.length : Int) ≤ 5 := by omega
  have hh4 : (hs.length : Int) ≤ 4 := by omega
  have hs5 : (ss.length : Int) ≤ 5 := by omega
  have hh0 : ¬ (hs.length : Int) = 0 := by omega
  have hhi : (i : Int) < (hs.length : Int) := Int.ofNat_lt.2 hi
  have hD0 : ¬ (D : Int) = 0 := by omega
  obtain ⟨gb, go, hha, c1, c2, c3, c4⟩ := hm.herds.get4 hi
  simp only at hha
  subst hha
  generalize hsi : hs[i] = hd at *
  obtain ⟨d1, d2, d3, d4⟩ := hd
  simp only at c1 c2 c3 c4 hrng hstart T1 T2 hb2
  subst hstart
  have hgb := World.block_lt_of_cell? w _ c1
  simp only at hgb
  have HC := Lib.hid hcase
  have hll1 : low.length ≤ ls.length ∧ ls.length ≤ low.length ∧ high.length ≤ ls.length ∧ ls.length ≤ high.length := by omega
  clear hcase hb2 hll
  go_enter Try.func6, Try.ntmps6
  go_wp2_with (first
    | (go_at_call 27; refine (HL.out _).mono ?_; rintro e w1 ⟨rfl, hb1⟩; refine at_stop ?_))
  unfold Stop
  have bb := (Blk.new w #[.slice pa ps.length pc, .slice la ls.length lc, .slice (some ⟨gb, go, none⟩) hs.length hc, .slice sa ss.length sc] 27).below hb1 (by first | omega | (simp; done) | (simp; omega))
  have hB := ((Below.refl w.heap.size w).alloc (Nat.le_refl _) _).trans (hb1.mono (by first | omega | (simp; done) | (simp; omega)))
  clear hb1
  have rb := bb.cell
  go_wp2_with (first
    | (go_at_call 28; refine (HBn.out _ hB).mono ?_; rintro e w2 ⟨rfl, hb2⟩; refine at_stop ?_))
  unfold Stop
  clear rb
  replace bb := bb.below hb2 bb.lt
  replace hB := hB.trans (hb2.mono hB.size)
  clear hb2 HL HBn
  have rb := bb.cell
  go_wp2_with (first
    | (refine wpList_load_blk 27 (.tmp 3) agg_mob rfl rfl rfl bb rfl ?_)
    | (go_at_call 23; refine (J1.out _ hB).mono ?_; rintro e w3 ⟨rfl, hb5⟩; replace bb := bb.below hb5 bb.lt; replace hB := hB.trans (hb5.mono hB.size); clear hb5; refine at_stop ?_))
  unfold Stop
  go_wp2_with (first
    | (refine wpList_load_blk 27 (.tmp 3) agg_mob rfl rfl rfl bb rfl ?_)
    | (go_at_call 15; refine (J2.out _ hB).mono ?_; rintro e w4 ⟨rfl, hb5⟩; replace bb := bb.below hb5 bb.lt; replace hB := hB.trans (hb5.mono hB.size); clear hb5; refine at_stop ?_))
  unfold Stop
  go_wp2_with (first
    | (refine wpList_load_blk 27 (.tmp 3) agg_mob rfl rfl rfl bb rfl ?_)
    | (go_at_call 24; refine (J3.out _ hB).mono ?_; rintro e w5 ⟨rfl, hb5⟩; replace bb := bb.below hb5 bb.lt; replace hB := hB.trans (hb5.mono hB.size); clear hb5; refine at_stop ?_))
  unfold Stop
  go_wp2_with (first
    | (refine wpList_store_blk 39 (.tmp 16) (.tmp 100) agg_span rfl rfl rfl rfl (Blk.new _ _ _) rfl rfl (by simp [Value.oneCell']) ?_; intro w6 h; refine at_stop ?_))
  unfold Stop
  have b16 := h.blk
  replace bb := h.other (bb.alloc _) (by have := bb.lt; (try simp only [World.size_drew]); omega)
  replace hB := h.below (hB.alloc hB.size _) hB.size
  generalize hp16 : w5.heap.size = p16 at *
  clear h
  clear b16 rb J1 J2 J3
  have rb := bb.cell
  have i1 := (hB.cell (p := ⟨gb, go + i * 4, none⟩) hgb).trans c1
  have i2 := (hB.cell (p := ⟨gb, go + i * 4 + 1, none⟩) hgb).trans c2
  have i3 := (hB.cell (p := ⟨gb, go + i * 4 + 2, none⟩) hgb).trans c3
  have i4 := (hB.cell (p := ⟨gb, go + i * 4 + 3, none⟩) hgb).trans c4
  go_wp2_with (first
    | (refine wpList_store_blk 56 (.tmp 19) (.tmp 129) agg_herdA rfl rfl rfl rfl (Blk.new _ _ _) rfl rfl (by simp [Value.oneCell']) ?_; intro w7 h; refine at_stop ?_))
  unfold Stop
  have b19 := h.blk
  replace bb := h.other (bb.alloc _) (by have := bb.lt; (try simp only [World.size_drew]); omega)
  replace hB := h.below (hB.alloc hB.size _) hB.size
  generalize hp19 : w6.heap.size = p19 at *
  clear h
  clear rb i1 i2 i3 i4 c1 c2 c3 c4 hr1 hh0
  have rb := bb.cell
  have r19 := b19.cell
  go_wp2_with fail
  refine Ord.wp_regionN [(0, 0), (1, 0), (2, 0), (3, 0), (4, 0), (5, 0), (6, 0), (7, 0), (8, 0), (9, 0), (10, 0), (11, 0), (12, 0)] (fun _ => True) (by kernel_rfl) (by kernel_rfl) trivial ?_
  go_wp2_with (first
    | (refine wpList_load_blk 27 (.tmp 3) agg_mob rfl rfl rfl bb rfl ?_)
    | (go_at_call 22; refine (J4.out _ (by first | exact hB | exact hB.drew)).mono ?_; rintro e w8 ⟨rfl, hb5⟩; refine at_stop ?_)
    | (with_reducible refine Ord.at_nm ?_)
    | ((with_reducible refine Ord.at_calm ?_); refine Ord.calm_skip rfl ?_ (fun K hK => ?_); (focus (simp [Region.wanted, yielded]; done))) | with_reducible refine Ord.walk_calm rfl rfl (fun K hK => ?_) | ((with_reducible refine Ord.at_wild ?_); refine Ord.wild_fieldAddr rfl rfl (fun W => by simp [go_sem]; rfl) (fun K hK => ?_)) | ((with_reducible refine Ord.at_wild ?_); refine Ord.wild_move rfl rfl (fun K hK => ?_)) | ((with_reducible refine Ord.at_wild ?_); refine Ord.wild_nilCheck rfl rfl (fun K hK => ?_)) | with_reducible refine Ord.walk_eff rfl (by first | (simp; done) | assumption | (go_simp; done) | (repeat (first | assumption | exact Below.refl _ _ | refine Below.drew ?_ | refine Below.alloc ?_ (by first | omega | (simp; done) | (simp; omega)) _ | refine Below.setCell ?_ (by first | omega | (simp; done) | (simp; omega)) _ | refine Below.trans ?_ (Below.mono (by assumption) (by first | omega | (simp; done) | (simp; omega)))))) (fun K hK => ?_) | with_reducible refine Ord.at_fork ?_ ?_ | with_reducible refine Ord.walk_nil ?_ | (with_reducible refine Ord.next_of (by first | (simp; done) | (go_simp; done) | (repeat (first | assumption | exact Below.refl _ _ | refine Below.drew ?_ | refine Below.alloc ?_ (by first | omega | (simp; done) | (simp; omega)) _ | refine Below.setCell ?_ (by first | omega | (simp; done) | (simp; omega)) _ | refine Below.trans ?_ (Below.mono (by assumption) (by first | omega | (simp; done) | (simp; omega)))))) (fun _ => ?_)))
  unfold Stop
  replace bb := bb.drew.below hb5 bb.lt
  replace b19 := b19.drew.below hb5 b19.lt
  replace hB := hB.drew.trans (hb5.mono hB.size)
  clear hb5 J4 hr2 hD0 hDi
  go_wp2_with (first
    | (refine wpList_store_blk 39 (.tmp 21) (.tmp 147) agg_span rfl rfl rfl rfl (Blk.new _ _ _) rfl rfl (by simp [Value.oneCell']) ?_; intro w9 h; refine at_stop ?_))
  unfold Stop
  have b21 := h.blk
  replace bb := h.other (bb.alloc _) (by have := bb.lt; (try simp only [World.size_drew]); omega)
  replace b19 := h.other (b19.alloc _) (by have := b19.lt; (try simp only [World.size_drew]); omega)
  replace hB := h.below (hB.alloc hB.size _) hB.size
  generalize hp21 : w8.heap.size = p21 at *
  clear h
  (try clear rb)
  have rb := bb.cell
  (try clear r19)
  have r19 := b19.cell
  go_wp2_with (first
    | (refine wpList_load_blk 27 (.tmp 3) agg_mob rfl rfl rfl bb rfl ?_)
    | (go_at_call 17; refine (J5.out _ hB).mono ?_; rintro e w10 ⟨rfl, hb5⟩; replace bb := bb.below hb5 bb.lt; replace b19 := b19.below hb5 b19.lt; replace b21 := b21.below hb5 b21.lt; replace hB := hB.trans (hb5.mono hB.size); clear hb5; refine at_stop ?_))
  unfold Stop
  (try clear rb)
  have rb := bb.cell
  (try clear r19)
  have r19 := b19.cell
  go_wp2_with (first
    | (refine wpList_load_blk 27 (.tmp 3) agg_mob rfl rfl rfl bb rfl ?_)
    | (go_at_call 22; refine (J6.out _ hB).mono ?_; rintro e w11 ⟨rfl, hb5⟩; replace bb := bb.below hb5 bb.lt; replace b19 := b19.below hb5 b19.lt; replace b21 := b21.below hb5 b21.lt; replace hB := hB.trans (hb5.mono hB.size); clear hb5; refine at_stop ?_))
  unfold Stop
  go_wp2_with (first
    | (refine wpList_store_blk 39 (.tmp 25) (.tmp 161) agg_span rfl rfl rfl rfl (Blk.new _ _ _) rfl rfl (by simp [Value.oneCell']) ?_; intro w12 h; refine at_stop ?_))
  unfold Stop
  have b25 := h.blk
  replace bb := h.other (bb.alloc _) (by have := bb.lt; (try simp only [World.size_drew]); omega)
  replace b19 := h.other (b19.alloc _) (by have := b19.lt; (try simp only [World.size_drew]); omega)
  replace b21 := h.other (b21.alloc _) (by have := b21.lt; (try simp only [World.size_drew]); omega)
  replace hB := h.below (hB.alloc hB.size _) hB.size
  generalize hp25 : w11.heap.size = p25 at *
  clear h
  clear b25
  (try clear rb)
  have rb := bb.cell
  (try clear r19)
  have r19 := b19.cell
  go_wp2_with (first
    | (refine wpList_load_blk 27 (.tmp 3) agg_mob rfl rfl rfl bb rfl ?_)
    | (go_at_call 22; refine (J7.out _ hB).mono ?_; rintro e w13 ⟨rfl, hb5⟩; replace bb := bb.below hb5 bb.lt; replace b19 := b19.below hb5 b19.lt; replace b21 := b21.below hb5 b21.lt; replace hB := hB.trans (hb5.mono hB.size); clear hb5; refine at_stop ?_))
  unfold Stop
  go_wp2_with (first
    | (refine wpList_store_blk 39 (.tmp 27) (.tmp 170) agg_span rfl rfl rfl rfl (Blk.new _ _ _) rfl rfl (by simp [Value.oneCell']) ?_; intro w14 h; refine at_stop ?_))
  unfold Stop
  have b27 := h.blk
  replace bb := h.other (bb.alloc _) (by have := bb.lt; (try simp only [World.size_drew]); omega)
  replace b19 := h.other (b19.alloc _) (by have := b19.lt; (try simp only [World.size_drew]); omega)
  replace b21 := h.other (b21.alloc _) (by have := b21.lt; (try simp only [World.size_drew]); omega)
  replace hB := h.below (hB.alloc hB.size _) hB.size
  generalize hp27 : w13.heap.size = p27 at *
  clear h
  clear b27
  (try clear rb)
  have rb := bb.cell
  (try clear r19)
  have r19 := b19.cell
  go_wp2_with (first
    | (refine wpList_load_blk 27 (.tmp 3) agg_mob rfl rfl rfl bb rfl ?_)
    | (go_at_call 23; refine (J8.out _ hB).mono ?_; rintro e w15 ⟨rfl, hb5⟩; replace bb := bb.below hb5 bb.lt; replace b19 := b19.below hb5 b19.lt; replace b21 := b21.below hb5 b21.lt; replace hB := hB.trans (hb5.mono hB.size); clear hb5; refine at_stop ?_))
  unfold Stop
  (try clear rb)
  have rb := bb.cell
  (try clear r19)
  have r19 := b19.cell
  go_wp2_with (first
    | (refine wpList_load_blk 27 (.tmp 3) agg_mob rfl rfl rfl bb rfl ?_)
    | (go_at_call 13; refine (J9.out _ hB).mono ?_; rintro e w16 ⟨rfl, hb5⟩; replace bb := bb.below hb5 bb.lt; replace b19 := b19.below hb5 b19.lt; replace b21 := b21.below hb5 b21.lt; replace hB := hB.trans (hb5.mono hB.size); clear hb5; refine at_stop ?_))
  unfold Stop
  clear J5 J6 J7 J8 J9
  (try clear rb r19)
  have r21 := b21.cell
  go_upto_region 23 with fail
  go_cut [223] from 187 to 223 (fun q wx => q = .bool false ∧ wx = w16)
  case first =>
    as_aux_lemma =>
      clear X1 T1 T2 G1 G2 K1 K2 Y2 HA HSp HSe HIn HLo hlgb HMR bb hB b19 b21
      have hcase := HC.out
      clear HC
      rcases hcase with ⟨rfl, rfl, rfl, hj4⟩ | ⟨rfl, rfl, hc⟩
      · have hj4' : (j == 4) = false := by rw [beq_eq_false_iff_ne]; exact hj4
        go_wp2_with fail
        go_meet
        exact ⟨rfl, rfl⟩
      · clear hc
        go_wp2_with fail
        go_meet
        exact ⟨rfl, rfl⟩
  case rest =>
    obtain ⟨rfl, rfl⟩ := hcut
    clear r21
    have hlo := bb.lt
    have h19l := b19.lt
    have h21l := b21.lt
    go_wp2_with (first
      | (refine wpList_load_blk 27 (.tmp 3) agg_mob rfl rfl rfl bb rfl ?_)
      | (refine wpList_store_blk 27 (.tmp 33) (.tmp 224) agg_mob rfl rfl rfl rfl (Blk.new _ _ _) rfl rfl (by simp [Value.oneCell']) ?_; intro w17 h; refine at_stop ?_))
    unfold Stop
    have b33 := h.blk
    replace bb := h.other (bb.alloc _) (by have := bb.lt; (try simp only [World.size_drew]); omega)
    replace b19 := h.other (b19.alloc _) (by have := b19.lt; (try simp only [World.size_drew]); omega)
    replace b21 := h.other (b21.alloc _) (by have := b21.lt; (try simp only [World.size_drew]); omega)
    replace hB := h.below (hB.alloc hB.size _) hB.size
    generalize hp33 : wc.heap.size = p33 at *
    clear h
    have rb := bb.cell
    have r33 := b33.cell
    have f33 := b33.free
    have l33 := b33.lt
    go_upto_region 28 with fail
    obtain ⟨wl, hwl⟩ : ∃ wl, w17.setCell ⟨p33, 3, none⟩ (.slice none 0 0) = wl := ⟨_, rfl⟩
    have b33l : Blk wl p33 #[.slice pa ps.length pc, .slice la ls.length lc, .slice (some ⟨gb, go, none⟩) hs.length hc, .slice none 0 0] 27 := by rw [← hwl]; exact b33.set 3 _
    have bbl := bb.other (p := ⟨p33, 3, none⟩) (by show w.heap.size ≠ p33; omega) (.slice none 0 0)
    have b19l := b19.other (p := ⟨p33, 3, none⟩) (by show p19 ≠ p33; omega) (.slice none 0 0)
    have b21l := b21.other (p := ⟨p33, 3, none⟩) (by show p21 ≠ p33; omega) (.slice none 0 0)
    have hBl := hB.setCell (p := ⟨p33, 3, none⟩) (by show w.heap.size ≤ p33; omega) (.slice none 0 0)
    rw [hwl] at bbl b19l b21l hBl
    rw [hwl]
    clear hwl b33 bb b19 b21 hB rb r33 f33 l33
    obtain ⟨z0, hz0'⟩ : ∃ z, wl.heap.size = z := ⟨_, rfl⟩
    have hz : wl.heap.size ≤ z0 ∧ z0 ≤ wl.heap.size := by omega
    clear hz0'
    have rb := bbl.cell
    have hlbl := bbl.lt
    have hl19 := b19l.lt
    have hl21 := b21l.lt
    have hl33 := b33l.lt
    go_wp2_with fail
    go_loopw [34, 35, 229] (fun x34 x35 x229 wr => ∃ k : Nat, k ≤ ls.length ∧ x229 = .int .i64 (k : Int) ∧ Below z0 wl wr ∧ wr.ownsRow z0 3 1 x34 (low.take k).length ((low.take k).flatMap itc) ∧ wr.ownsRow z0 3 1 x35 (high.take k).length ((high.take k).flatMap itc) ∧ (∀ g, x34.ownBlock = some g → x35.ownBlock ≠ some g)) (fun _ _ x229 _ => ls.length - (intOf x229).toNat)
    case atStart => exact ⟨0, Nat.zero_le _, rfl, Below.refl _ _, by simpa using World.ownsRow_nil _ _ _ _, by simpa using World.ownsRow_nil _ _ _ _, fun g h => by simp [Value.ownBlock] at h⟩
    case round =>
      as_aux_lemma =>
        clear rb
        obtain ⟨k', hk, rfl, hBr, own34, own35, hdis⟩ := hrel
        have bbr := bbl.below hBr (by omega)
        have rb := bbr.cell
        have hBw : Below w.heap.size w wr := hBl.trans (hBr.mono (by omega))
        by_cases hlt : k' < ls.length
        · have hlti : (k' : Int) < (ls.length : Int) := Int.ofNat_lt.2 hlt
          obtain ⟨gl, gol, hla, el1, el2⟩ := (HMR.out _ hBw).legs.get2 hlt
          simp only at hla
          subst hla
          obtain ⟨e1, e2⟩ := HLo.out k' hlt
          have hlgx := hlgb.out _ (List.getElem_mem hlt)
          generalize ls[k'] = lx at *
          obtain ⟨l1, l2⟩ := lx
          simp only at el1 el2 e1 e2 hlgx
          have hta : low.take (k' + 1) = low.take k' ++ [l1] := by rw [List.take_add_one, e1]; rfl
          have htb : high.take (k' + 1) = high.take k' ++ [l2] := by rw [List.take_add_one, e2]; rfl
          have hla1 : (low.take k').length ≤ 5 ∧ (high.take k').length ≤ 5 := by simp only [List.length_take]; omega
          have HTA := Lib.hid hta
          have HTB := Lib.hid htb
          clear hta htb e1 e2
          go_wp2_with (first
            | (refine wpList_store_blk 39 (.tmp 37) (.tmp 232) agg_span rfl rfl rfl rfl (Blk.new _ _ _) rfl rfl (by simp [Value.oneCell']) ?_; intro w20 h; refine at_stop ?_))
          unfold Stop
          have b37 := h.blk
          have h34 := own34.lt
          have h35 := own35.lt
          replace own34 := ownsRow_below own34 (h.below ((Below.refl _ _).alloc (Nat.le_refl _) _) (Nat.le_refl _))
          replace own35 := ownsRow_below own35 (h.below ((Below.refl _ _).alloc (Nat.le_refl _) _) (Nat.le_refl _))
          have hBr2 : Below z0 wl w20 := h.below (hBr.alloc (by have := hBr.size; omega) _) (by have := hBr.size; omega)
          have hsr := hBr.size
          generalize hp37 : wr.heap.size = p37 at *
          clear h rb el1 el2
          have l37 := b37.lt
          go_upto_region 31 with fail
          clear X1 T1 T2 G1 G2 K1 K2 Y2 HA HSp HSe HIn HLo hlgb HMR bbl b19l b21l b33l bbr HC hBw hBl
          have hz20 : z0 ≤ w20.heap.size := by have := hBr2.size; omega
          have hbz : ∀ b, b = 0 ∨ True := fun _ => .inr trivial
          refine Ord.wp_regionTN 4 (.fork2 [(0, 1), (1, 1), (2, 1), (5, 1), (6, 1), (7, 1)] 3 (.fork2 [] 4 (.leaf [(8, 2), (9, 2), (10, 0), (11, 0)]) 8 (.leaf [(4, 2), (9, 2), (10, 0), (11, 0)])) 8 (.leaf [(3, 2), (4, 2), (9, 2), (10, 0), (11, 0)])) (fun W => Blk W p37 #[.int .i64 l1, .int .i64 l2] 39) (by kernel_rfl) (by kernel_rfl) b37.drew ?_
          go_wp2_with (first
            | ((with_reducible refine Ord.at_wild ?_); refine Ord.wild_load (ad := ⟨p37, 0, none⟩) (.int .i64 l1) rfl rfl ?_ ?_; (focus (intro W hW; have r := hW.cell; simp [go_sem, r]; done)); intro K hK)
            | ((with_reducible refine Ord.at_wild ?_); refine Ord.wild_load (ad := ⟨p37, 1, none⟩) (.int .i64 l2) rfl rfl ?_ ?_; (focus (intro W hW; have r := hW.cell; simp [go_sem, r]; done)); intro K hK)
            | (at_builtin; refine at_stop ?_)
            | (with_reducible refine Ord.at_nm ?_)
            | (with_reducible refine Ord.walk_eff rfl (by repeat (first | exact b37 | refine Blk.drew ?_ | refine Blk.alloc ?_ _)) (fun K hK => ?_)) | (with_reducible refine Ord.next_of (by repeat (first | exact b37 | refine Blk.drew ?_ | refine Blk.alloc ?_ _)) (fun _ => ?_))
            | with_reducible refine Ord.top_two ?_ | with_reducible refine Ord.top_three ?_ | with_reducible refine Ord.at_two ?_ ?_ | with_reducible refine Ord.at_three ?_ ?_ ?_ | with_reducible refine Ord.tree_leaf ?_ | with_reducible refine Ord.tree_two ?_ | ((with_reducible refine Ord.at_calm ?_); refine Ord.calm_skip rfl ?_ (fun K hK => ?_); (focus (simp [Region.wanted, yielded]; done))) | with_reducible refine Ord.walk_calm rfl rfl (fun K hK => ?_) | ((with_reducible refine Ord.at_wild ?_); refine Ord.wild_fieldAddr rfl rfl (fun W => by simp [go_sem]; rfl) (fun K hK => ?_)) | ((with_reducible refine Ord.at_wild ?_); refine Ord.wild_move rfl rfl (fun K hK => ?_)) | ((with_reducible refine Ord.at_wild ?_); refine Ord.wild_nilCheck rfl rfl (fun K hK => ?_)) | with_reducible refine Ord.walk_eff rfl (by first | (simp; done) | assumption | (go_simp; done) | (repeat (first | assumption | exact Below.refl _ _ | refine Below.drew ?_ | refine Below.alloc ?_ (by first | omega | (simp; done) | (simp; omega)) _ | refine Below.setCell ?_ (by first | omega | (simp; done) | (simp; omega)) _ | refine Below.trans ?_ (Below.mono (by assumption) (by first | omega | (simp; done) | (simp; omega)))))) (fun K hK => ?_) | with_reducible refine Ord.at_fork ?_ ?_ | with_reducible refine Ord.walk_nil ?_ | (with_reducible refine Ord.next_of (by first | (simp; done) | (go_simp; done) | (repeat (first | assumption | exact Below.refl _ _ | refine Below.drew ?_ | refine Below.alloc ?_ (by first | omega | (simp; done) | (simp; omega)) _ | refine Below.setCell ?_ (by first | omega | (simp; done) | (simp; omega)) _ | refine Below.trans ?_ (Below.mono (by assumption) (by first | omega | (simp; done) | (simp; omega)))))) (fun _ => ?_)))
          all_goals unfold Stop
          · refine wpList_appendW rfl (.tmp 233) (.tmp 236) 50 rfl z0 3 i0 (.int .i64 0) 1 8 Try.underlying50 hi0 hz0 hz1 hz2 rfl (by decide) u34 (low.take k').length ((low.take k').flatMap itc) rfl (ownsRow_drew (World.ownsRow.alloc own34 _)) (.slice (some ⟨_, 0, none⟩) 1 1) 1 [.int .i64 l1] rfl ⟨rfl, .inr ⟨_, _, rfl, news_blk (A := #[.int .i64 l1]) (Blk.new w20 _ _).drew⟩⟩ (by simp [Value.oneCell']) (by unfold maxLen; omega) (by omega) (by first | omega | (simp; done) | (simp; omega)) ?_
            intro va wa owna hga hwa
            have hsa := hga.size
            (try simp only [World.size_alloc, World.size_drew] at hsa hwa)
            have b37a : Blk wa p37 #[.int .i64 l1, .int .i64 l2] 39 := (hga.block p37 (by simp; omega) (fun e => by have := (h34 _ e.symm).2; omega)).trans (b37.alloc _).drew
            have own35a := World.ownsRow.kept (ownsRow_drew (World.ownsRow.alloc own35 _)) hga (by
              cases h : u35.ownBlock with
              | none => exact .inl rfl
              | some g => exact .inr (fun e => hdis g e.symm h))
            have hBa : Below z0 wl wa := Below.grown (hBr2.alloc (by first | omega | (simp; done) | (simp; omega)) _).drew hga (by first | omega | (simp; done) | (simp; omega)) (fun g e => (h34 g e).1)
            go_wp2_with (first
              | (at_builtin; refine at_stop ?_)
              | (with_reducible refine Ord.at_nm ?_)
              | (with_reducible refine Ord.walk_eff rfl (by repeat (first | exact b37a | refine Blk.drew ?_ | refine Blk.alloc ?_ _)) (fun K hK => ?_)) | (with_reducible refine Ord.next_of (by repeat (first | exact b37a | refine Blk.drew ?_ | refine Blk.alloc ?_ _)) (fun _ => ?_))
              | with_reducible refine Ord.top_two ?_ | with_reducible refine Ord.top_three ?_ | with_reducible refine Ord.at_two ?_ ?_ | with_reducible refine Ord.at_three ?_ ?_ ?_ | with_reducible refine Ord.tree_leaf ?_ | with_reducible refine Ord.tree_two ?_ | ((with_reducible refine Ord.at_calm ?_); refine Ord.calm_skip rfl ?_ (fun K hK => ?_); (focus (simp [Region.wanted, yielded]; done))) | with_reducible refine Ord.walk_calm rfl rfl (fun K hK => ?_) | ((with_reducible refine Ord.at_wild ?_); refine Ord.wild_fieldAddr rfl rfl (fun W => by simp [go_sem]; rfl) (fun K hK => ?_)) | ((with_reducible refine Ord.at_wild ?_); refine Ord.wild_move rfl rfl (fun K hK => ?_)) | ((with_reducible refine Ord.at_wild ?_); refine Ord.wild_nilCheck rfl rfl (fun K hK => ?_)) | with_reducible refine Ord.walk_eff rfl (by first | (simp; done) | assumption | (go_simp; done) | (repeat (first | assumption | exact Below.refl _ _ | refine Below.drew ?_ | refine Below.alloc ?_ (by first | omega | (simp; done) | (simp; omega)) _ | refine Below.setCell ?_ (by first | omega | (simp; done) | (simp; omega)) _ | refine Below.trans ?_ (Below.mono (by assumption) (by first | omega | (simp; done) | (simp; omega)))))) (fun K hK => ?_) | with_reducible refine Ord.at_fork ?_ ?_ | with_reducible refine Ord.walk_nil ?_ | (with_reducible refine Ord.next_of (by first | (simp; done) | (go_simp; done) | (repeat (first | assumption | exact Below.refl _ _ | refine Below.drew ?_ | refine Below.alloc ?_ (by first | omega | (simp; done) | (simp; omega)) _ | refine Below.setCell ?_ (by first | omega | (simp; done) | (simp; omega)) _ | refine Below.trans ?_ (Below.mono (by assumption) (by first | omega | (simp; done) | (simp; omega)))))) (fun _ => ?_)))
            unfold Stop
            refine wpList_appendW rfl (.tmp 238) (.tmp 241) 50 rfl z0 3 i0 (.int .i64 0) 1 8 Try.underlying50 hi0 hz0 hz1 hz2 rfl (by decide) u35 (high.take k').length ((high.take k').flatMap itc) rfl (World.ownsRow.alloc own35a _) (.slice (some ⟨_, 0, none⟩) 1 1) 1 [.int .i64 l2] rfl ⟨rfl, .inr ⟨_, _, rfl, news_blk (A := #[.int .i64 l2]) (Blk.new _ _ _)⟩⟩ (by simp [Value.oneCell']) (by unfold maxLen; omega) (by omega) (by first | omega | (simp; done) | (simp; omega)) ?_
            intro vb wb ownb hgb hwb
            have hsb := hgb.size
            (try simp only [World.size_alloc, World.size_drew] at hsb hwb)
            have b37b : Blk wb p37 #[.int .i64 l1, .int .i64 l2] 39 := (hgb.block p37 (by have := b37a.lt; simp; try omega) (fun e => by have := (h35 _ e.symm).2; omega)).trans (b37a.alloc _)
            have owna' := World.ownsRow.kept (World.ownsRow.alloc owna _) hgb (by
              cases h : va.ownBlock with
              | none => exact .inl rfl
              | some g => exact .inr (fun e => by
                  rcases hwa g h with h1 | h1
                  · exact hdis g h1 e.symm
                  · have := (h35 _ e.symm).2; omega))
            have hBb : Below z0 wl wb := Below.grown (hBa.alloc (by omega) _) hgb (by first | omega | (simp; done) | (simp; omega)) (fun g e => (h35 g e).1)
            have hlta := owna.lt
            go_wp2_with (first
              | (with_reducible refine Ord.at_nm ?_)
              | (with_reducible refine Ord.walk_eff rfl (by exact b37b) (fun K hK => ?_)) | (with_reducible refine Ord.next_of (by exact b37b) (fun _ => ?_))
              | with_reducible refine Ord.top_two ?_ | with_reducible refine Ord.top_three ?_ | with_reducible refine Ord.at_two ?_ ?_ | with_reducible refine Ord.at_three ?_ ?_ ?_ | with_reducible refine Ord.tree_leaf ?_ | with_reducible refine Ord.tree_two ?_ | ((with_reducible refine Ord.at_calm ?_); refine Ord.calm_skip rfl ?_ (fun K hK => ?_); (focus (simp [Region.wanted, yielded]; done))) | with_reducible refine Ord.walk_calm rfl rfl (fun K hK => ?_) | ((with_reducible refine Ord.at_wild ?_); refine Ord.wild_fieldAddr rfl rfl (fun W => by simp [go_sem]; rfl) (fun K hK => ?_)) | ((with_reducible refine Ord.at_wild ?_); refine Ord.wild_move rfl rfl (fun K hK => ?_)) | ((with_reducible refine Ord.at_wild ?_); refine Ord.wild_nilCheck rfl rfl (fun K hK => ?_)) | with_reducible refine Ord.walk_eff rfl (by first | (simp; done) | assumption | (go_simp; done) | (repeat (first | assumption | exact Below.refl _ _ | refine Below.drew ?_ | refine Below.alloc ?_ (by first | omega | (simp; done) | (simp; omega)) _ | refine Below.setCell ?_ (by first | omega | (simp; done) | (simp; omega)) _ | refine Below.trans ?_ (Below.mono (by assumption) (by first | omega | (simp; done) | (simp; omega)))))) (fun K hK => ?_) | with_reducible refine Ord.at_fork ?_ ?_ | with_reducible refine Ord.walk_nil ?_ | (with_reducible refine Ord.next_of (by first | (simp; done) | (go_simp; done) | (repeat (first | assumption | exact Below.refl _ _ | refine Below.drew ?_ | refine Below.alloc ?_ (by first | omega | (simp; done) | (simp; omega)) _ | refine Below.setCell ?_ (by first | omega | (simp; done) | (simp; omega)) _ | refine Below.trans ?_ (Below.mono (by assumption) (by first | omega | (simp; done) | (simp; omega)))))) (fun _ => ?_)))
            refine ⟨⟨k' + 1, by omega, by go_num, hBb, by rw [HTA.out]; simpa [itc] using owna', by rw [HTB.out]; simpa [itc] using ownb, fun g ea eb => ?_⟩, by simp [intOf]; omega⟩
            rcases hwb g eb with h2 | h2
            · rcases hwa g ea with h1 | h1
              · exact hdis g h1 h2
              · have := (h35 _ h2).2; omega
            · have := (hlta g ea).2; omega
  
          · refine wpList_appendW rfl (.tmp 233) (.tmp 236) 50 rfl z0 3 i0 (.int .i64 0) 1 8 Try.underlying50 hi0 hz0 hz1 hz2 rfl (by decide) u34 (low.take k').length ((low.take k').flatMap itc) rfl (ownsRow_drew (World.ownsRow.alloc (World.ownsRow.alloc own34 _) _)) (.slice (some ⟨_, 0, none⟩) 1 1) 1 [.int .i64 l1] rfl ⟨rfl, .inr ⟨_, _, rfl, news_blk (A := #[.int .i64 l1]) ((Blk.new w20 _ _).alloc _).drew⟩⟩ (by simp [Value.oneCell']) (by unfold maxLen; omega) (by omega) (by first | omega | (simp; done) | (simp; omega)) ?_
            intro va wa owna hga hwa
            have hsa := hga.size
            (try simp only [World.size_alloc, World.size_drew] at hsa hwa)
            have b37a : Blk wa p37 #[.int .i64 l1, .int .i64 l2] 39 := (hga.block p37 (by simp; omega) (fun e => by have := (h34 _ e.symm).2; omega)).trans ((b37.alloc _).alloc _).drew
            have own35a := World.ownsRow.kept (ownsRow_drew (World.ownsRow.alloc (World.ownsRow.alloc own35 _) _)) hga (by
              cases h : u35.ownBlock with
              | none => exact .inl rfl
              | some g => exact .inr (fun e => hdis g e.symm h))
            have hBa : Below z0 wl wa := Below.grown ((hBr2.alloc (by first | omega | (simp; done) | (simp; omega)) _).alloc (by first | omega | (simp; done) | (simp; omega)) _).drew hga (by first | omega | (simp; done) | (simp; omega)) (fun g e => (h34 g e).1)
            have b8a : Blk wa (w20.heap.size + 1) #[.int .i64 l2] 3 := (hga.block _ (by simp) (fun e => by have := (h34 _ e.symm).2; omega)).trans (Blk.new' (w20.alloc _) _ _ _ (by simp)).drew
            go_wp2_with (first
              | (at_builtin; refine at_stop ?_)
              | (with_reducible refine Ord.at_nm ?_)
              | (with_reducible refine Ord.walk_eff rfl (by repeat (first | exact b37a | refine Blk.drew ?_ | refine Blk.alloc ?_ _)) (fun K hK => ?_)) | (with_reducible refine Ord.next_of (by repeat (first | exact b37a | refine Blk.drew ?_ | refine Blk.alloc ?_ _)) (fun _ => ?_))
              | with_reducible refine Ord.top_two ?_ | with_reducible refine Ord.top_three ?_ | with_reducible refine Ord.at_two ?_ ?_ | with_reducible refine Ord.at_three ?_ ?_ ?_ | with_reducible refine Ord.tree_leaf ?_ | with_reducible refine Ord.tree_two ?_ | ((with_reducible refine Ord.at_calm ?_); refine Ord.calm_skip rfl ?_ (fun K hK => ?_); (focus (simp [Region.wanted, yielded]; done))) | with_reducible refine Ord.walk_calm rfl rfl (fun K hK => ?_) | ((with_reducible refine Ord.at_wild ?_); refine Ord.wild_fieldAddr rfl rfl (fun W => by simp [go_sem]; rfl) (fun K hK => ?_)) | ((with_reducible refine Ord.at_wild ?_); refine Ord.wild_move rfl rfl (fun K hK => ?_)) | ((with_reducible refine Ord.at_wild ?_); refine Ord.wild_nilCheck rfl rfl (fun K hK => ?_)) | with_reducible refine Ord.walk_eff rfl (by first | (simp; done) | assumption | (go_simp; done) | (repeat (first | assumption | exact Below.refl _ _ | refine Below.drew ?_ | refine Below.alloc ?_ (by first | omega | (simp; done) | (simp; omega)) _ | refine Below.setCell ?_ (by first | omega | (simp; done) | (simp; omega)) _ | refine Below.trans ?_ (Below.mono (by assumption) (by first | omega | (simp; done) | (simp; omega)))))) (fun K hK => ?_) | with_reducible refine Ord.at_fork ?_ ?_ | with_reducible refine Ord.walk_nil ?_ | (with_reducible refine Ord.next_of (by first | (simp; done) | (go_simp; done) | (repeat (first | assumption | exact Below.refl _ _ | refine Below.drew ?_ | refine Below.alloc ?_ (by first | omega | (simp; done) | (simp; omega)) _ | refine Below.setCell ?_ (by first | omega | (simp; done) | (simp; omega)) _ | refine Below.trans ?_ (Below.mono (by assumption) (by first | omega | (simp; done) | (simp; omega)))))) (fun _ => ?_)))
            unfold Stop
            refine wpList_appendW rfl (.tmp 238) (.tmp 241) 50 rfl z0 3 i0 (.int .i64 0) 1 8 Try.underlying50 hi0 hz0 hz1 hz2 rfl (by decide) u35 (high.take k').length ((high.take k').flatMap itc) rfl own35a (.slice (some ⟨_, 0, none⟩) 1 1) 1 [.int .i64 l2] rfl ⟨rfl, .inr ⟨_, _, rfl, news_blk (A := #[.int .i64 l2]) b8a⟩⟩ (by simp [Value.oneCell']) (by unfold maxLen; omega) (by omega) (by first | omega | (simp; done) | (simp; omega)) ?_
            intro vb wb ownb hgb hwb
            have hsb := hgb.size
            (try simp only [World.size_alloc, World.size_drew] at hsb hwb)
            have b37b : Blk wb p37 #[.int .i64 l1, .int .i64 l2] 39 := (hgb.block p37 (by have := b37a.lt; simp; try omega) (fun e => by have := (h35 _ e.symm).2; omega)).trans b37a
            have owna' := World.ownsRow.kept owna hgb (by
              cases h : va.ownBlock with
              | none => exact .inl rfl
              | some g => exact .inr (fun e => by
                  rcases hwa g h with h1 | h1
                  · exact hdis g h1 e.symm
                  · have := (h35 _ e.symm).2; omega))
            have hBb : Below z0 wl wb := Below.grown hBa hgb (by first | omega | (simp; done) | (simp; omega)) (fun g e => (h35 g e).1)
            have hlta := owna.lt
            go_wp2_with (first
              | (with_reducible refine Ord.at_nm ?_)
              | (with_reducible refine Ord.walk_eff rfl (by exact b37b) (fun K hK => ?_)) | (with_reducible refine Ord.next_of (by exact b37b) (fun _ => ?_))
              | with_reducible refine Ord.top_two ?_ | with_reducible refine Ord.top_three ?_ | with_reducible refine Ord.at_two ?_ ?_ | with_reducible refine Ord.at_three ?_ ?_ ?_ | with_reducible refine Ord.tree_leaf ?_ | with_reducible refine Ord.tree_two ?_ | ((with_reducible refine Ord.at_calm ?_); refine Ord.calm_skip rfl ?_ (fun K hK => ?_); (focus (simp [Region.wanted, yielded]; done))) | with_reducible refine Ord.walk_calm rfl rfl (fun K hK => ?_) | ((with_reducible refine Ord.at_wild ?_); refine Ord.wild_fieldAddr rfl rfl (fun W => by simp [go_sem]; rfl) (fun K hK => ?_)) | ((with_reducible refine Ord.at_wild ?_); refine Ord.wild_move rfl rfl (fun K hK => ?_)) | ((with_reducible refine Ord.at_wild ?_); refine Ord.wild_nilCheck rfl rfl (fun K hK => ?_)) | with_reducible refine Ord.walk_eff rfl (by first | (simp; done) | assumption | (go_simp; done) | (repeat (first | assumption | exact Below.refl _ _ | refine Below.drew ?_ | refine Below.alloc ?_ (by first | omega | (simp; done) | (simp; omega)) _ | refine Below.setCell ?_ (by first | omega | (simp; done) | (simp; omega)) _ | refine Below.trans ?_ (Below.mono (by assumption) (by first | omega | (simp; done) | (simp; omega)))))) (fun K hK => ?_) | with_reducible refine Ord.at_fork ?_ ?_ | with_reducible refine Ord.walk_nil ?_ | (with_reducible refine Ord.next_of (by first | (simp; done) | (go_simp; done) | (repeat (first | assumption | exact Below.refl _ _ | refine Below.drew ?_ | refine Below.alloc ?_ (by first | omega | (simp; done) | (simp; omega)) _ | refine Below.setCell ?_ (by first | omega | (simp; done) | (simp; omega)) _ | refine Below.trans ?_ (Below.mono (by assumption) (by first | omega | (simp; done) | (simp; omega)))))) (fun _ => ?_)))
            refine ⟨⟨k' + 1, by omega, by go_num, hBb, by rw [HTA.out]; simpa [itc] using owna', by rw [HTB.out]; simpa [itc] using ownb, fun g ea eb => ?_⟩, by simp [intOf]; omega⟩
            rcases hwb g eb with h2 | h2
            · rcases hwa g ea with h1 | h1
              · exact hdis g h1 h2
              · have := (h35 _ h2).2; omega
            · have := (hlta g ea).2; omega
  
          · refine wpList_appendW rfl (.tmp 233) (.tmp 236) 50 rfl z0 3 i0 (.int .i64 0) 1 8 Try.underlying50 hi0 hz0 hz1 hz2 rfl (by decide) u34 (low.take k').length ((low.take k').flatMap itc) rfl (ownsRow_drew (World.ownsRow.alloc (World.ownsRow.alloc own34 _) _)) (.slice (some ⟨_, 0, none⟩) 1 1) 1 [.int .i64 l1] rfl ⟨rfl, .inr ⟨_, _, rfl, news_blk (A := #[.int .i64 l1]) (Blk.new' (w20.alloc (.cells #[.int .i64 l2] 3)) _ _ _ (by simp)).drew⟩⟩ (by simp [Value.oneCell']) (by unfold maxLen; omega) (by omega) (by first | omega | (simp; done) | (simp; omega)) ?_
            intro va wa owna hga hwa
            have hsa := hga.size
            (try simp only [World.size_alloc, World.size_drew] at hsa hwa)
            have b37a : Blk wa p37 #[.int .i64 l1, .int .i64 l2] 39 := (hga.block p37 (by simp; omega) (fun e => by have := (h34 _ e.symm).2; omega)).trans ((b37.alloc _).alloc _).drew
            have own35a := World.ownsRow.kept (ownsRow_drew (World.ownsRow.alloc (World.ownsRow.alloc own35 _) _)) hga (by
              cases h : u35.ownBlock with
              | none => exact .inl rfl
              | some g => exact .inr (fun e => hdis g e.symm h))
            have hBa : Below z0 wl wa := Below.grown ((hBr2.alloc (by first | omega | (simp; done) | (simp; omega)) _).alloc (by first | omega | (simp; done) | (simp; omega)) _).drew hga (by first | omega | (simp; done) | (simp; omega)) (fun g e => (h34 g e).1)
            have b8a : Blk wa w20.heap.size #[.int .i64 l2] 3 := (hga.block _ (by simp; omega) (fun e => by have := (h34 _ e.symm).2; omega)).trans ((Blk.new' w20 _ _ _ rfl).alloc _).drew
            go_wp2_with (first
              | (at_builtin; refine at_stop ?_)
              | (with_reducible refine Ord.at_nm ?_)
              | (with_reducible refine Ord.walk_eff rfl (by repeat (first | exact b37a | refine Blk.drew ?_ | refine Blk.alloc ?_ _)) (fun K hK => ?_)) | (with_reducible refine Ord.next_of (by repeat (first | exact b37a | refine Blk.drew ?_ | refine Blk.alloc ?_ _)) (fun _ => ?_))
              | with_reducible refine Ord.top_two ?_ | with_reducible refine Ord.top_three ?_ | with_reducible refine Ord.at_two ?_ ?_ | with_reducible refine Ord.at_three ?_ ?_ ?_ | with_reducible refine Ord.tree_leaf ?_ | with_reducible refine Ord.tree_two ?_ | ((with_reducible refine Ord.at_calm ?_); refine Ord.calm_skip rfl ?_ (fun K hK => ?_); (focus (simp [Region.wanted, yielded]; done))) | with_reducible refine Ord.walk_calm rfl rfl (fun K hK => ?_) | ((with_reducible refine Ord.at_wild ?_); refine Ord.wild_fieldAddr rfl rfl (fun W => by simp [go_sem]; rfl) (fun K hK => ?_)) | ((with_reducible refine Ord.at_wild ?_); refine Ord.wild_move rfl rfl (fun K hK => ?_)) | ((with_reducible refine Ord.at_wild ?_); refine Ord.wild_nilCheck rfl rfl (fun K hK => ?_)) | with_reducible refine Ord.walk_eff rfl (by first | (simp; done) | assumption | (go_simp; done) | (repeat (first | assumption | exact Below.refl _ _ | refine Below.drew ?_ | refine Below.alloc ?_ (by first | omega | (simp; done) | (simp; omega)) _ | refine Below.setCell ?_ (by first | omega | (simp; done) | (simp; omega)) _ | refine Below.trans ?_ (Below.mono (by assumption) (by first | omega | (simp; done) | (simp; omega)))))) (fun K hK => ?_) | with_reducible refine Ord.at_fork ?_ ?_ | with_reducible refine Ord.walk_nil ?_ | (with_reducible refine Ord.next_of (by first | (simp; done) | (go_simp; done) | (repeat (first | assumption | exact Below.refl _ _ | refine Below.drew ?_ | refine Below.alloc ?_ (by first | omega | (simp; done) | (simp; omega)) _ | refine Below.setCell ?_ (by first | omega | (simp; done) | (simp; omega)) _ | refine Below.trans ?_ (Below.mono (by assumption) (by first | omega | (simp; done) | (simp; omega)))))) (fun _ => ?_)))
            unfold Stop
            refine wpList_appendW rfl (.tmp 238) (.tmp 241) 50 rfl z0 3 i0 (.int .i64 0) 1 8 Try.underlying50 hi0 hz0 hz1 hz2 rfl (by decide) u35 (high.take k').length ((high.take k').flatMap itc) rfl own35a (.slice (some ⟨_, 0, none⟩) 1 1) 1 [.int .i64 l2] rfl ⟨rfl, .inr ⟨_, _, rfl, news_blk (A := #[.int .i64 l2]) b8a⟩⟩ (by simp [Value.oneCell']) (by unfold maxLen; omega) (by omega) (by first | omega | (simp; done) | (simp; omega)) ?_
            intro vb wb ownb hgb hwb
            have hsb := hgb.size
            (try simp only [World.size_alloc, World.size_drew] at hsb hwb)
            have b37b : Blk wb p37 #[.int .i64 l1, .int .i64 l2] 39 := (hgb.block p37 (by have := b37a.lt; simp; try omega) (fun e => by have := (h35 _ e.symm).2; omega)).trans b37a
            have owna' := World.ownsRow.kept owna hgb (by
              cases h : va.ownBlock with
              | none => exact .inl rfl
              | some g => exact .inr (fun e => by
                  rcases hwa g h with h1 | h1
                  · exact hdis g h1 e.symm
                  · have := (h35 _ e.symm).2; omega))
            have hBb : Below z0 wl wb := Below.grown hBa hgb (by first | omega | (simp; done) | (simp; omega)) (fun g e => (h35 g e).1)
            have hlta := owna.lt
            go_wp2_with (first
              | (with_reducible refine Ord.at_nm ?_)
              | (with_reducible refine Ord.walk_eff rfl (by exact b37b) (fun K hK => ?_)) | (with_reducible refine Ord.next_of (by exact b37b) (fun _ => ?_))
              | with_reducible refine Ord.top_two ?_ | with_reducible refine Ord.top_three ?_ | with_reducible refine Ord.at_two ?_ ?_ | with_reducible refine Ord.at_three ?_ ?_ ?_ | with_reducible refine Ord.tree_leaf ?_ | with_reducible refine Ord.tree_two ?_ | ((with_reducible refine Ord.at_calm ?_); refine Ord.calm_skip rfl ?_ (fun K hK => ?_); (focus (simp [Region.wanted, yielded]; done))) | with_reducible refine Ord.walk_calm rfl rfl (fun K hK => ?_) | ((with_reducible refine Ord.at_wild ?_); refine Ord.wild_fieldAddr rfl rfl (fun W => by simp [go_sem]; rfl) (fun K hK => ?_)) | ((with_reducible refine Ord.at_wild ?_); refine Ord.wild_move rfl rfl (fun K hK => ?_)) | ((with_reducible refine Ord.at_wild ?_); refine Ord.wild_nilCheck rfl rfl (fun K hK => ?_)) | with_reducible refine Ord.walk_eff rfl (by first | (simp; done) | assumption | (go_simp; done) | (repeat (first | assumption | exact Below.refl _ _ | refine Below.drew ?_ | refine Below.alloc ?_ (by first | omega | (simp; done) | (simp; omega)) _ | refine Below.setCell ?_ (by first | omega | (simp; done) | (simp; omega)) _ | refine Below.trans ?_ (Below.mono (by assumption) (by first | omega | (simp; done) | (simp; omega)))))) (fun K hK => ?_) | with_reducible refine Ord.at_fork ?_ ?_ | with_reducible refine Ord.walk_nil ?_ | (with_reducible refine Ord.next_of (by first | (simp; done) | (go_simp; done) | (repeat (first | assumption | exact Below.refl _ _ | refine Below.drew ?_ | refine Below.alloc ?_ (by first | omega | (simp; done) | (simp; omega)) _ | refine Below.setCell ?_ (by first | omega | (simp; done) | (simp; omega)) _ | refine Below.trans ?_ (Below.mono (by assumption) (by first | omega | (simp; done) | (simp; omega)))))) (fun _ => ?_)))
            refine ⟨⟨k' + 1, by omega, by go_num, hBb, by rw [HTA.out]; simpa [itc] using owna', by rw [HTB.out]; simpa [itc] using ownb, fun g ea eb => ?_⟩, by simp [intOf]; omega⟩
            rcases hwb g eb with h2 | h2
            · rcases hwa g ea with h1 | h1
              · exact hdis g h1 h2
              · have := (h35 _ h2).2; omega
            · have := (hlta g ea).2; omega
  
        · have hlti : ¬ (k' : Int) < (ls.length : Int) := by omega
          obtain rfl : k' = ls.length := by omega
          rw [List.take_of_length_le (by omega)] at own34
          rw [List.take_of_length_le (by omega)] at own35
          obtain ⟨a34, c34, rfl, hr34⟩ := own_rows (f := itc) (fun _ => rfl) own34
          obtain ⟨a35, c35, rfl, hr35⟩ := own_rows (f := itc) (fun _ => rfl) own35
          have el1 : low.length = ls.length := by omega
          have el2 : high.length = ls.length := by omega
          rw [el1]
          rw [el2]
          have bb := bbr
          have b19 := b19l.below hBr (by omega)
          have b21 := b21l.below hBr (by omega)
          have b33 := b33l.below hBr (by omega)
          have hB := hBw
          clear el1 el2 own34 own35 hdis bbr bbl b19l b21l b33l hBr hBl hBw rb HLo hlgb
          have r19 := b19.cell
          go_wp2_with (first
            | (refine wpList_load_blk 27 (.tmp 3) agg_mob rfl rfl rfl bb rfl ?_)
            | (go_at_call 31; refine (T1.out _ _ _ hB hr34).mono ?_; rintro e w21 ⟨mp1, s1, rfl, hM1, hmp1, hb5⟩; replace bb := bb.below hb5 bb.lt; replace b19 := b19.below hb5 b19.lt; replace b21 := b21.below hb5 b21.lt; replace b33 := b33.below hb5 b33.lt; replace hr35 := hr35.below hb5; replace hB := hB.trans (hb5.mono hB.size); clear hb5; refine at_stop ?_))
          unfold Stop
          (try clear r19)
          have r19 := b19.cell
          go_wp2_with (first
            | (refine wpList_load_blk 27 (.tmp 3) agg_mob rfl rfl rfl bb rfl ?_)
            | (go_at_call 31; refine (T2.out _ _ _ hB hr35).mono ?_; rintro e w22 ⟨mp2, s2, rfl, hM2, hmp2, hb5⟩; replace bb := bb.below hb5 bb.lt; replace b19 := b19.below hb5 b19.lt; replace b21 := b21.below hb5 b21.lt; replace b33 := b33.below hb5 b33.lt; replace hB := hB.trans (hb5.mono hB.size); replace hM1 := (K1.out _ _ _ hM1 (hb5.block _ (K1.out _ _ _ hM1 rfl).2)).1; clear hb5; refine at_stop ?_))
          unfold Stop
          clear T1 T2 hr34 hr35
          go_wp2_with (first
            | (refine wpList_load_blk 27 (.tmp 33) agg_mob rfl rfl rfl b33 rfl ?_)
            | (go_at_call 22; refine (X1.out _ hB).mono ?_; rintro e w23 ⟨rfl, hb5⟩; replace bb := bb.below hb5 bb.lt; replace b19 := b19.below hb5 b19.lt; replace b21 := b21.below hb5 b21.lt; replace b33 := b33.below hb5 b33.lt; replace hB := hB.trans (hb5.mono hB.size); replace hM1 := (K1.out _ _ _ hM1 (hb5.block _ (K1.out _ _ _ hM1 rfl).2)).1; replace hM2 := (K2.out _ _ _ hM2 (hb5.block _ (K2.out _ _ _ hM2 rfl).2)).1; clear hb5; refine at_stop ?_))
          unfold Stop
          go_wp2_with (first
            | (refine wpList_store_blk 39 (.tmp 42) (.tmp 269) agg_span rfl rfl rfl rfl (Blk.new _ _ _) rfl rfl (by simp [Value.oneCell']) ?_; intro w24 h; refine at_stop ?_))
          unfold Stop
          have hbs : Below w23.heap.size w23 w24 := h.below ((Below.refl _ _).alloc (Nat.le_refl _) _) (Nat.le_refl _)
          replace hM1 := (K1.out _ _ _ hM1 (hbs.block _ (K1.out _ _ _ hM1 rfl).2)).1
          replace hM2 := (K2.out _ _ _ hM2 (hbs.block _ (K2.out _ _ _ hM2 rfl).2)).1
          clear hbs
          have b42 := h.blk
          replace bb := h.other (bb.alloc _) (by have := bb.lt; (try simp only [World.size_drew]); omega)
          replace b19 := h.other (b19.alloc _) (by have := b19.lt; (try simp only [World.size_drew]); omega)
          replace b21 := h.other (b21.alloc _) (by have := b21.lt; (try simp only [World.size_drew]); omega)
          replace hB := h.below (hB.alloc hB.size _) hB.size
          generalize hp42 : w23.heap.size = p42 at *
          clear h
          clear b33 X1
          have hg1 : Hid (∀ W, Below w24.heap.size w24 W → (Instr.lookup 57 (.map (some mp1)) (.int .i64 (p : Int)) false).run Try.prog W = .ok (.int .i64 va) W) := fun W hW => G1.out W mp1 (K1.out w24 W _ hM1 (hW.block _ (K1.out w24 w24 _ hM1 rfl).2)).1
          have hg2 : Hid (∀ W, Below w24.heap.size w24 W → (Instr.lookup 57 (.map (some mp2)) (.int .i64 (p : Int)) false).run Try.prog W = .ok (.int .i64 vb) W) := fun W hW => G2.out W mp2 (K2.out w24 W _ hM2 (hW.block _ (K2.out w24 w24 _ hM2 rfl).2)).1
          have l42 := b42.lt
          go_upto_region 36 with fail
          go_cut [283] from 230 to 283 (fun q wx => q = .bool false ∧ Below w24.heap.size w24 wx)
          case first =>
            as_aux_lemma =>
              clear G1 G2 K1 K2 Y2 HA HSe HIn HMR HC bb hB b19 b21
              refine Ord.wp_regionN [(0, 0), (1, 0), (2, 0), (3, 1), (4, 0), (5, 0), (6, 1), (7, 0), (8, 0), (9, 1), (10, 2), (11, 0), (12, 0)] (fun W => Below w24.heap.size w24 W) (by kernel_rfl) (by kernel_rfl) (Below.refl _ _).drew ?_
              go_wp2_with (first
                | ((with_reducible refine Ord.at_wild ?_); refine at_stop ?_)
                | with_reducible refine Ord.walk_calm rfl rfl (fun K hK => ?_))
              unfold Stop
              refine Ord.wild_load (ad := ⟨p42, 0, none⟩) (.agg #[.int .i64 va, .int .i64 vb]) rfl rfl ?_ ?_
              · intro W hW; exact loadVar_blk agg_span (b42.below hW l42) rfl
              intro K hK
              go_wp2_with (first
                | ((with_reducible refine Ord.at_wild ?_); refine at_stop ?_)
                | ((with_reducible refine Ord.at_calm ?_); refine Ord.walk_calm_g rfl rfl rfl ?_; intro K hK))
              unfold Stop
              refine Ord.walk_wild_as rfl (.int .i64 va) ?_ ?_
              · intro W hW
                exact yields_lookup rfl rfl rfl (hg1.out W hW)
              intro K hK
              go_wp2_with (first
                | ((with_reducible refine Ord.at_wild ?_); refine at_stop ?_)
                | ((with_reducible refine Ord.at_calm ?_); refine Ord.walk_calm_g rfl rfl rfl ?_; intro K hK))
              unfold Stop
              refine Ord.walk_wild_as rfl (.int .i64 vb) ?_ ?_
              · intro W hW
                exact yields_lookup rfl rfl rfl (hg2.out W hW)
              intro K hK
              go_wp2_with (first
                | ((with_reducible refine Ord.at_eff ?_); refine at_stop ?_))
              unfold Stop
              refine Ord.walk_eff_g rfl ?_ rfl ?_
              · exact (Below.refl _ _).drew
              intro K hK
              go_wp2_with (first
                | (go_at_call 20; refine at_stop ?_))
              unfold Stop
              refine (HSp.out _ _ _).mono ?_
              rintro e w25 ⟨rfl, hb25⟩
              have hbb : Below w24.heap.size w24 w25 := (Below.refl _ _).drew.trans hb25
              clear hb25
              go_wp2_with (first
                | (with_reducible refine Ord.next_of (by exact hbb) (fun _ => ?_))
                | ((with_reducible refine Ord.at_calm ?_); refine Ord.walk_calm_g rfl rfl rfl ?_; intro K hK)
                | (with_reducible refine Ord.walk_nil ?_)
                | (with_reducible refine Ord.at_nm ?_))
              go_meet
              exact ⟨rfl, hbb⟩
          case rest =>
            obtain ⟨rfl, hbc⟩ := hcut
            replace bb := bb.below hbc bb.lt
            replace b21 := b21.below hbc b21.lt
            replace hB := hB.trans (hbc.mono hB.size)
            clear hbc b19 b42 hg1 hg2 hM1 hM2 K1 K2 G1 G2
            have hcase := HC.out
            clear HC
            have rb := bb.cell
            rcases hcase with ⟨rfl, rfl, rfl, hj4⟩ | ⟨rfl, rfl, hlh, hlo0, hhi1, hc⟩
            · go_wp2_with (first
                | (go_at_call 12; refine (HA.out _).mono ?_; rintro e w30 ⟨rfl, hb30⟩))
              (try go_ret)
              exact ⟨rfl, hB.trans (hb30.mono hB.size)⟩
            · by_cases hs5e : ss.length = 5
              · have hse : ((ss.length : Int) == 5) = true := by rw [hs5e]; rfl
                clear hs5e hc
                go_wp2_with (first
                  | (go_at_call 12; refine (HA.out _).mono ?_; rintro e w30 ⟨rfl, hb30⟩))
                (try go_ret)
                exact ⟨rfl, hB.trans (hb30.mono hB.size)⟩
              · have hse : ((ss.length : Int) == 5) = false := by rw [beq_eq_false_iff_ne]; omega
                have hc5 := Lib.hid (hc (by omega))
                clear hs5e hc
                have r21 := b21.cell
                go_wp2_with fail
                obtain ⟨p303, hp303⟩ : ∃ p, wc.heap.size = p := ⟨_, rfl⟩
                obtain ⟨wl, hwl⟩ : ∃ wl, wc.alloc (.cells #[.int .i64 (lo - 1), .int .i64 lo, .int .i64 hi', .int .i64 (hi' + 1)] 3) = wl := ⟨_, rfl⟩
                have b303 : Blk wl p303 #[.int .i64 (lo - 1), .int .i64 lo, .int .i64 hi', .int .i64 (hi' + 1)] 3 := by rw [← hwl]; exact Blk.new' _ _ _ _ hp303
                have bbl : Blk wl w.heap.size #[.slice pa ps.length pc, .slice la ls.length lc, .slice (some ⟨gb, go, none⟩) hs.length hc, .slice sa ss.length sc] 27 := by rw [← hwl]; exact bb.alloc _
                have b21l := b21.alloc (.cells #[.int .i64 (lo - 1), .int .i64 lo, .int .i64 hi', .int .i64 (hi' + 1)] 3)
                have hBl := hB.alloc hB.size (.cells #[.int .i64 (lo - 1), .int .i64 lo, .int .i64 hi', .int .i64 (hi' + 1)] 3)
                rw [hwl] at b21l hBl
                rw [hwl, hp303]
                clear hwl hp303 bb b21 hB rb r21
                obtain ⟨z1, hz1'⟩ : ∃ z, wl.heap.size = z := ⟨_, rfl⟩
                have hz1 : wl.heap.size ≤ z1 ∧ z1 ≤ wl.heap.size := by omega
                clear hz1'
                have l303 := b303.lt
                have l21 := b21l.lt
                have lbl := bbl.lt
                go_loopw [305] (fun x305 wr => ∃ k : Nat, k ≤ 4 ∧ x305 = .int .i64 (k : Int) ∧ Below z1 wl wr) (fun x305 _ => 4 - (intOf x305).toNat)
                case atStart => exact ⟨0, by omega, rfl, Below.refl _ _⟩
                case round =>
                  as_aux_lemma =>
                    obtain ⟨k', hk, rfl, hBr⟩ := hrel
                    have bbr := bbl.below hBr (by omega)
                    have b21r := b21l.below hBr (by omega)
                    have hsr := hBr.size
                    have hBw : Below w.heap.size w wr := hBl.trans (hBr.mono (by omega))
                    by_cases hlt : k' < 4
                    · have hlti : (k' : Int) < 4 := by omega
                      obtain ⟨d, hcell, hd⟩ : ∃ d, wr.cell? ⟨p303, k', none⟩ = some (.int .i64 d) ∧ (d = lo - 1 ∨ d = lo ∨ d = hi' ∨ d = hi' + 1) := by
                        have r := (b303.below hBr (by omega)).cell
                        rcases (show k' = 0 ∨ k' = 1 ∨ k' = 2 ∨ k' = 3 by omega) with rfl | rfl | rfl | rfl
                        · exact ⟨_, r 0, .inl rfl⟩
                        · exact ⟨_, r 1, .inr (.inl rfl)⟩
                        · exact ⟨_, r 2, .inr (.inr (.inl rfl))⟩
                        · exact ⟨_, r 3, .inr (.inr (.inr rfl))⟩
                      have hc6 := Lib.hid (hc5.out d hd)
                      have hdb : -1 ≤ d ∧ d ≤ 101 := by omega
                      clear hd hc5
                      by_cases hd0 : d < 0
                      · clear hc6
                        go_wp2_with fail
                        exact ⟨⟨k' + 1, by omega, by go_num, hBr⟩, by simp [intOf]; omega⟩
                      · by_cases hd1 : 100 < d
                        · clear hc6
                          go_wp2_with fail
                          exact ⟨⟨k' + 1, by omega, by go_num, hBr⟩, by simp [intOf]; omega⟩
                        · have hc7 := Lib.hid (hc6.out (by omega) (by omega))
                          clear hc6
                          have Yd := Y2.out
                          replace Yd := fun W => Yd W d
                          obtain ⟨⟨⟨o1, o2⟩, r0⟩, hcd⟩ : ∃ x, cw d = x := ⟨_, rfl⟩
                          rw [hcd] at hc7
                          simp only [hcd] at Yd
                          have HYd := Lib.hid Yd
                          clear Y2 hcd Yd
                          go_upto_region 44 with fail
                          go_cut [46, 47] from 315 to 327 (fun x46 x47 wx => ∃ p46, x46 = .pointer (some ⟨p46, 0, none⟩) ∧ x47 = .int .i64 r0 ∧ Blk wx p46 #[.int .i64 o1, .int .i64 o2] 39 ∧ Below wr.heap.size wr wx)
                          case first =>
                            as_aux_lemma =>
                              clear hc7 HA HSp HIn b303 b21l bbl hBl
                              refine Ord.wp_regionTN 4 (.fork2 [(0, 1), (1, 1), (2, 1), (3, 1), (4, 1), (7, 1), (8, 1)] 5 (.fork2 [] 6 (.fork2 [] 9 (.leaf [(10, 1), (11, 1), (12, 1), (13, 2), (14, 2), (15, 0)]) 13 (.leaf [(9, 2), (10, 0), (11, 0), (12, 1), (14, 2), (15, 0)])) 13 (.leaf [(6, 2), (9, 2), (10, 0), (11, 0), (12, 1), (14, 2), (15, 0)])) 13 (.leaf [(5, 2), (6, 2), (9, 2), (10, 0), (11, 0), (12, 1), (14, 2), (15, 0)])) (fun W => Below wr.heap.size wr W) (by kernel_rfl) (by kernel_rfl) (Below.refl _ _).drew ?_
                              go_wp2_with (first
                                | ((with_reducible refine Ord.at_wild ?_); refine Ord.wild_load (ad := ⟨w.heap.size, 0, none⟩) (.agg #[.slice pa ps.length pc, .slice la ls.length lc, .slice (some ⟨gb, go, none⟩) hs.length hc, .slice sa ss.length sc]) rfl rfl ?_ ?_; (focus (intro W hW; exact loadVar_blk agg_mob (bbr.below hW bbr.lt) rfl)); intro K hK)
                                | (go_at_call 34; refine (HSe.out _ _ _ _ _).mono ?_; rintro e ws ⟨rfl, hbs⟩; have hBs : Below wr.heap.size wr ws := Below.trans (by (repeat (first | assumption | exact Below.refl _ _ | refine Below.drew ?_ | refine Below.alloc ?_ (by first | omega | (simp; done) | (simp; omega)) _ | refine Below.setCell ?_ (by first | omega | (simp; done) | (simp; omega)) _ | refine Below.trans ?_ (Below.mono (by assumption) (by first | omega | (simp; done) | (simp; omega)))))) (hbs.mono (by first | omega | (simp; done) | (simp; omega))); have hSz := hBs.size)
                                | (go_at_call 33; refine at_stop ?_)
                                | (with_reducible refine Ord.at_nm ?_)
                                | with_reducible refine Ord.top_two ?_ | with_reducible refine Ord.top_three ?_ | with_reducible refine Ord.at_two ?_ ?_ | with_reducible refine Ord.at_three ?_ ?_ ?_ | with_reducible refine Ord.tree_leaf ?_ | with_reducible refine Ord.tree_two ?_ | ((with_reducible refine Ord.at_calm ?_); refine Ord.calm_skip rfl ?_ (fun K hK => ?_); (focus (simp [Region.wanted, yielded]; done))) | with_reducible refine Ord.walk_calm rfl rfl (fun K hK => ?_) | ((with_reducible refine Ord.at_wild ?_); refine Ord.wild_fieldAddr rfl rfl (fun W => by simp [go_sem]; rfl) (fun K hK => ?_)) | ((with_reducible refine Ord.at_wild ?_); refine Ord.wild_move rfl rfl (fun K hK => ?_)) | ((with_reducible refine Ord.at_wild ?_); refine Ord.wild_nilCheck rfl rfl (fun K hK => ?_)) | with_reducible refine Ord.walk_eff rfl (by first | (simp; done) | assumption | (go_simp; done) | (repeat (first | assumption | exact Below.refl _ _ | refine Below.drew ?_ | refine Below.alloc ?_ (by first | omega | (simp; done) | (simp; omega)) _ | refine Below.setCell ?_ (by first | omega | (simp; done) | (simp; omega)) _ | refine Below.trans ?_ (Below.mono (by assumption) (by first | omega | (simp; done) | (simp; omega)))))) (fun K hK => ?_) | with_reducible refine Ord.at_fork ?_ ?_ | with_reducible refine Ord.walk_nil ?_ | (with_reducible refine Ord.next_of (by first | (simp; done) | (go_simp; done) | (repeat (first | assumption | exact Below.refl _ _ | refine Below.drew ?_ | refine Below.alloc ?_ (by first | omega | (simp; done) | (simp; omega)) _ | refine Below.setCell ?_ (by first | omega | (simp; done) | (simp; omega)) _ | refine Below.trans ?_ (Below.mono (by assumption) (by first | omega | (simp; done) | (simp; omega)))))) (fun _ => ?_)))
                              all_goals unfold Stop
                              · refine (HYd.out _ (hBw.trans ((show Below wr.heap.size wr _ from by (repeat (first | assumption | exact Below.refl _ _ | refine Below.drew ?_ | refine Below.alloc ?_ (by first | omega | (simp; done) | (simp; omega)) _ | refine Below.setCell ?_ (by first | omega | (simp; done) | (simp; omega)) _ | refine Below.trans ?_ (Below.mono (by assumption) (by first | omega | (simp; done) | (simp; omega)))))).mono hBw.size))).mono ?_
                                rintro e ww ⟨v, rfl, hbw, hYv⟩
                                have hBs2 : Below wr.heap.size wr ww := Below.trans (by (repeat (first | assumption | exact Below.refl _ _ | refine Below.drew ?_ | refine Below.alloc ?_ (by first | omega | (simp; done) | (simp; omega)) _ | refine Below.setCell ?_ (by first | omega | (simp; done) | (simp; omega)) _ | refine Below.trans ?_ (Below.mono (by assumption) (by first | omega | (simp; done) | (simp; omega)))))) (hbw.mono (by first | omega | (simp; done) | (simp; omega)))
                                have hSz2 := hBs2.size
                                have HYv := Lib.hid hYv
                                clear hYv
                                go_wp2_with (first
                                  | (go_at_call 22; refine at_stop ?_)
                                  | (with_reducible refine Ord.at_nm ?_)
                                  | with_reducible refine Ord.top_two ?_ | with_reducible refine Ord.top_three ?_ | with_reducible refine Ord.at_two ?_ ?_ | with_reducible refine Ord.at_three ?_ ?_ ?_ | with_reducible refine Ord.tree_leaf ?_ | with_reducible refine Ord.tree_two ?_ | ((with_reducible refine Ord.at_calm ?_); refine Ord.calm_skip rfl ?_ (fun K hK => ?_); (focus (simp [Region.wanted, yielded]; done))) | with_reducible refine Ord.walk_calm rfl rfl (fun K hK => ?_) | ((with_reducible refine Ord.at_wild ?_); refine Ord.wild_fieldAddr rfl rfl (fun W => by simp [go_sem]; rfl) (fun K hK => ?_)) | ((with_reducible refine Ord.at_wild ?_); refine Ord.wild_move rfl rfl (fun K hK => ?_)) | ((with_reducible refine Ord.at_wild ?_); refine Ord.wild_nilCheck rfl rfl (fun K hK => ?_)) | with_reducible refine Ord.walk_eff rfl (by first | (simp; done) | assumption | (go_simp; done) | (repeat (first | assumption | exact Below.refl _ _ | refine Below.drew ?_ | refine Below.alloc ?_ (by first | omega | (simp; done) | (simp; omega)) _ | refine Below.setCell ?_ (by first | omega | (simp; done) | (simp; omega)) _ | refine Below.trans ?_ (Below.mono (by assumption) (by first | omega | (simp; done) | (simp; omega)))))) (fun K hK => ?_) | with_reducible refine Ord.at_fork ?_ ?_ | with_reducible refine Ord.walk_nil ?_ | (with_reducible refine Ord.next_of (by first | (simp; done) | (go_simp; done) | (repeat (first | assumption | exact Below.refl _ _ | refine Below.drew ?_ | refine Below.alloc ?_ (by first | omega | (simp; done) | (simp; omega)) _ | refine Below.setCell ?_ (by first | omega | (simp; done) | (simp; omega)) _ | refine Below.trans ?_ (Below.mono (by assumption) (by first | omega | (simp; done) | (simp; omega)))))) (fun _ => ?_)))
                                all_goals unfold Stop
                                · refine (HYv.out _ (Below.refl _ _)).mono ?_
                                  rintro e w9 ⟨rfl, hb9⟩
                                  have hB9 : Below wr.heap.size wr w9 := Below.trans (by (repeat (first | assumption | exact Below.refl _ _ | refine Below.drew ?_ | refine Below.alloc ?_ (by first | omega | (simp; done) | (simp; omega)) _ | refine Below.setCell ?_ (by first | omega | (simp; done) | (simp; omega)) _ | refine Below.trans ?_ (Below.mono (by assumption) (by first | omega | (simp; done) | (simp; omega)))))) (hb9.mono (by first | omega | (simp; done) | (simp; omega)))
                                  have hS9 := hB9.size
                                  go_wp2_with (first
                                    | (refine wpList_store_blk 39 (.tmp 46) (.tmp 326) agg_span rfl rfl rfl rfl (Blk.new _ _ _) rfl rfl (by simp [Value.oneCell']) ?_; intro w10 h10; refine at_stop ?_)
                                    | (with_reducible refine Ord.at_nm ?_)
                                    | ((with_reducible refine Ord.at_wild ?_); refine Ord.walk_wild_as rfl (.int .i64 r0) ?_ ?_; (focus (intro W hW; exact yields_extract (ix := 1) rfl rfl rfl)); intro K hK)
                                    | ((with_reducible refine Ord.at_wild ?_); refine Ord.walk_wild_as rfl (.agg #[.int .i64 o1, .int .i64 o2]) ?_ ?_; (focus (intro W hW; exact yields_extract (ix := 0) rfl rfl rfl)); intro K hK)
                                    | with_reducible refine Ord.top_two ?_ | with_reducible refine Ord.top_three ?_ | with_reducible refine Ord.at_two ?_ ?_ | with_reducible refine Ord.at_three ?_ ?_ ?_ | with_reducible refine Ord.tree_leaf ?_ | with_reducible refine Ord.tree_two ?_ | ((with_reducible refine Ord.at_calm ?_); refine Ord.calm_skip rfl ?_ (fun K hK => ?_); (focus (simp [Region.wanted, yielded]; done))) | with_reducible refine Ord.walk_calm rfl rfl (fun K hK => ?_) | ((with_reducible refine Ord.at_wild ?_); refine Ord.wild_fieldAddr rfl rfl (fun W => by simp [go_sem]; rfl) (fun K hK => ?_)) | ((with_reducible refine Ord.at_wild ?_); refine Ord.wild_move rfl rfl (fun K hK => ?_)) | ((with_reducible refine Ord.at_wild ?_); refine Ord.wild_nilCheck rfl rfl (fun K hK => ?_)) | with_reducible refine Ord.walk_eff rfl (by first | (simp; done) | assumption | (go_simp; done) | (repeat (first | assumption | exact Below.refl _ _ | refine Below.drew ?_ | refine Below.alloc ?_ (by first | omega | (simp; done) | (simp; omega)) _ | refine Below.setCell ?_ (by first | omega | (simp; done) | (simp; omega)) _ | refine Below.trans ?_ (Below.mono (by assumption) (by first | omega | (simp; done) | (simp; omega)))))) (fun K hK => ?_) | with_reducible refine Ord.at_fork ?_ ?_ | with_reducible refine Ord.walk_nil ?_ | (with_reducible refine Ord.next_of (by first | (simp; done) | (go_simp; done) | (repeat (first | assumption | exact Below.refl _ _ | refine Below.drew ?_ | refine Below.alloc ?_ (by first | omega | (simp; done) | (simp; omega)) _ | refine Below.setCell ?_ (by first | omega | (simp; done) | (simp; omega)) _ | refine Below.trans ?_ (Below.mono (by assumption) (by first | omega | (simp; done) | (simp; omega)))))) (fun _ => ?_)))
                                  unfold Stop
                                  have b46 := h10.blk
                                  have hB10 : Below wr.heap.size wr w10 := h10.below (by first | exact hB9 | exact hB9.alloc hS9 _) (by first | omega | (simp; done) | exact Nat.le_refl _)
                                  go_wp2_with (first
                                    | (with_reducible refine Ord.at_nm ?_)
                                    | with_reducible refine Ord.top_two ?_ | with_reducible refine Ord.top_three ?_ | with_reducible refine Ord.at_two ?_ ?_ | with_reducible refine Ord.at_three ?_ ?_ ?_ | with_reducible refine Ord.tree_leaf ?_ | with_reducible refine Ord.tree_two ?_ | ((with_reducible refine Ord.at_calm ?_); refine Ord.calm_skip rfl ?_ (fun K hK => ?_); (focus (simp [Region.wanted, yielded]; done))) | with_reducible refine Ord.walk_calm rfl rfl (fun K hK => ?_) | ((with_reducible refine Ord.at_wild ?_); refine Ord.wild_fieldAddr rfl rfl (fun W => by simp [go_sem]; rfl) (fun K hK => ?_)) | ((with_reducible refine Ord.at_wild ?_); refine Ord.wild_move rfl rfl (fun K hK => ?_)) | ((with_reducible refine Ord.at_wild ?_); refine Ord.wild_nilCheck rfl rfl (fun K hK => ?_)) | with_reducible refine Ord.walk_eff rfl (by first | (simp; done) | assumption | (go_simp; done) | (repeat (first | assumption | exact Below.refl _ _ | refine Below.drew ?_ | refine Below.alloc ?_ (by first | omega | (simp; done) | (simp; omega)) _ | refine Below.setCell ?_ (by first | omega | (simp; done) | (simp; omega)) _ | refine Below.trans ?_ (Below.mono (by assumption) (by first | omega | (simp; done) | (simp; omega)))))) (fun K hK => ?_) | with_reducible refine Ord.at_fork ?_ ?_ | with_reducible refine Ord.walk_nil ?_ | (with_reducible refine Ord.next_of (by first | (simp; done) | (go_simp; done) | (repeat (first | assumption | exact Below.refl _ _ | refine Below.drew ?_ | refine Below.alloc ?_ (by first | omega | (simp; done) | (simp; omega)) _ | refine Below.setCell ?_ (by first | omega | (simp; done) | (simp; omega)) _ | refine Below.trans ?_ (Below.mono (by assumption) (by first | omega | (simp; done) | (simp; omega)))))) (fun _ => ?_)))
                                  go_meet
                                  exact ⟨_, rfl, rfl, b46, hB10⟩
                                · refine (HYv.out _ ((Below.refl _ _).alloc (Nat.le_refl _) _)).mono ?_
                                  rintro e w9 ⟨rfl, hb9⟩
                                  have hB9 : Below wr.heap.size wr w9 := Below.trans (by (repeat (first | assumption | exact Below.refl _ _ | refine Below.drew ?_ | refine Below.alloc ?_ (by first | omega | (simp; done) | (simp; omega)) _ | refine Below.setCell ?_ (by first | omega | (simp; done) | (simp; omega)) _ | refine Below.trans ?_ (Below.mono (by assumption) (by first | omega | (simp; done) | (simp; omega)))))) (hb9.mono (by first | omega | (simp; done) | (simp; omega)))
                                  have hS9 := hB9.size
                                  have b46z : Blk w9 ww.heap.size #[.int .i64 0, .int .i64 0] 39 := (Blk.new ww _ _).below hb9 (by simp)
                                  go_wp2_with (first
                                    | (refine wpList_store_blk 39 (.tmp 46) (.tmp 326) agg_span rfl rfl rfl rfl b46z rfl rfl (by simp [Value.oneCell']) ?_; intro w10 h10; refine at_stop ?_)
                                    | (with_reducible refine Ord.at_nm ?_)
                                    | ((with_reducible refine Ord.at_wild ?_); refine Ord.walk_wild_as rfl (.int .i64 r0) ?_ ?_; (focus (intro W hW; exact yields_extract (ix := 1) rfl rfl rfl)); intro K hK)
                                    | ((with_reducible refine Ord.at_wild ?_); refine Ord.walk_wild_as rfl (.agg #[.int .i64 o1, .int .i64 o2]) ?_ ?_; (focus (intro W hW; exact yields_extract (ix := 0) rfl rfl rfl)); intro K hK)
                                    | with_reducible refine Ord.top_two ?_ | with_reducible refine Ord.top_three ?_ | with_reducible refine Ord.at_two ?_ ?_ | with_reducible refine Ord.at_three ?_ ?_ ?_ | with_reducible refine Ord.tree_leaf ?_ | with_reducible refine Ord.tree_two ?_ | ((with_reducible refine Ord.at_calm ?_); refine Ord.calm_skip rfl ?_ (fun K hK => ?_); (focus (simp [Region.wanted, yielded]; done))) | with_reducible refine Ord.walk_calm rfl rfl (fun K hK => ?_) | ((with_reducible refine Ord.at_wild ?_); refine Ord.wild_fieldAddr rfl rfl (fun W => by simp [go_sem]; rfl) (fun K hK => ?_)) | ((with_reducible refine Ord.at_wild ?_); refine Ord.wild_move rfl rfl (fun K hK => ?_)) | ((with_reducible refine Ord.at_wild ?_); refine Ord.wild_nilCheck rfl rfl (fun K hK => ?_)) | with_reducible refine Ord.walk_eff rfl (by first | (simp; done) | assumption | (go_simp; done) | (repeat (first | assumption | exact Below.refl _ _ | refine Below.drew ?_ | refine Below.alloc ?_ (by first | omega | (simp; done) | (simp; omega)) _ | refine Below.setCell ?_ (by first | omega | (simp; done) | (simp; omega)) _ | refine Below.trans ?_ (Below.mono (by assumption) (by first | omega | (simp; done) | (simp; omega)))))) (fun K hK => ?_) | with_reducible refine Ord.at_fork ?_ ?_ | with_reducible refine Ord.walk_nil ?_ | (with_reducible refine Ord.next_of (by first | (simp; done) | (go_simp; done) | (repeat (first | assumption | exact Below.refl _ _ | refine Below.drew ?_ | refine Below.alloc ?_ (by first | omega | (simp; done) | (simp; omega)) _ | refine Below.setCell ?_ (by first | omega | (simp; done) | (simp; omega)) _ | refine Below.trans ?_ (Below.mono (by assumption) (by first | omega | (simp; done) | (simp; omega)))))) (fun _ => ?_)))
                                  unfold Stop
                                  have b46 := h10.blk
                                  have hB10 : Below wr.heap.size wr w10 := h10.below (by first | exact hB9 | exact hB9.alloc hS9 _) (by first | omega | (simp; done) | exact Nat.le_refl _)
                                  go_wp2_with (first
                                    | (with_reducible refine Ord.at_nm ?_)
                                    | with_reducible refine Ord.top_two ?_ | with_reducible refine Ord.top_three ?_ | with_reducible refine Ord.at_two ?_ ?_ | with_reducible refine Ord.at_three ?_ ?_ ?_ | with_reducible refine Ord.tree_leaf ?_ | with_reducible refine Ord.tree_two ?_ | ((with_reducible refine Ord.at_calm ?_); refine Ord.calm_skip rfl ?_ (fun K hK => ?_); (focus (simp [Region.wanted, yielded]; done))) | with_reducible refine Ord.walk_calm rfl rfl (fun K hK => ?_) | ((with_reducible refine Ord.at_wild ?_); refine Ord.wild_fieldAddr rfl rfl (fun W => by simp [go_sem]; rfl) (fun K hK => ?_)) | ((with_reducible refine Ord.at_wild ?_); refine Ord.wild_move rfl rfl (fun K hK => ?_)) | ((with_reducible refine Ord.at_wild ?_); refine Ord.wild_nilCheck rfl rfl (fun K hK => ?_)) | with_reducible refine Ord.walk_eff rfl (by first | (simp; done) | assumption | (go_simp; done) | (repeat (first | assumption | exact Below.refl _ _ | refine Below.drew ?_ | refine Below.alloc ?_ (by first | omega | (simp; done) | (simp; omega)) _ | refine Below.setCell ?_ (by first | omega | (simp; done) | (simp; omega)) _ | refine Below.trans ?_ (Below.mono (by assumption) (by first | omega | (simp; done) | (simp; omega)))))) (fun K hK => ?_) | with_reducible refine Ord.at_fork ?_ ?_ | with_reducible refine Ord.walk_nil ?_ | (with_reducible refine Ord.next_of (by first | (simp; done) | (go_simp; done) | (repeat (first | assumption | exact Below.refl _ _ | refine Below.drew ?_ | refine Below.alloc ?_ (by first | omega | (simp; done) | (simp; omega)) _ | refine Below.setCell ?_ (by first | omega | (simp; done) | (simp; omega)) _ | refine Below.trans ?_ (Below.mono (by assumption) (by first | omega | (simp; done) | (simp; omega)))))) (fun _ => ?_)))
                                  go_meet
                                  exact ⟨_, rfl, rfl, b46, hB10⟩
                              · refine (HYd.out _ (hBw.trans ((show Below wr.heap.size wr _ from by (repeat (first | assumption | exact Below.refl _ _ | refine Below.drew ?_ | refine Below.alloc ?_ (by first | omega | (simp; done) | (simp; omega)) _ | refine Below.setCell ?_ (by first | omega | (simp; done) | (simp; omega)) _ | refine Below.trans ?_ (Below.mono (by assumption) (by first | omega | (simp; done) | (simp; omega)))))).mono hBw.size))).mono ?_
                                rintro e ww ⟨v, rfl, hbw, hYv⟩
                                have hBs2 : Below wr.heap.size wr ww := Below.trans (by (repeat (first | assumption | exact Below.refl _ _ | refine Below.drew ?_ | refine Below.alloc ?_ (by first | omega | (simp; done) | (simp; omega)) _ | refine Below.setCell ?_ (by first | omega | (simp; done) | (simp; omega)) _ | refine Below.trans ?_ (Below.mono (by assumption) (by first | omega | (simp; done) | (simp; omega)))))) (hbw.mono (by first | omega | (simp; done) | (simp; omega)))
                                have hSz2 := hBs2.size
                                have HYv := Lib.hid hYv
                                clear hYv
                                have b46y : Blk ww ws.heap.size #[.int .i64 0, .int .i64 0] 39 := (Blk.new ws _ _).below hbw (by simp)
                                go_wp2_with (first
                                  | (go_at_call 22; refine at_stop ?_)
                                  | (with_reducible refine Ord.at_nm ?_)
                                  | with_reducible refine Ord.top_two ?_ | with_reducible refine Ord.top_three ?_ | with_reducible refine Ord.at_two ?_ ?_ | with_reducible refine Ord.at_three ?_ ?_ ?_ | with_reducible refine Ord.tree_leaf ?_ | with_reducible refine Ord.tree_two ?_ | ((with_reducible refine Ord.at_calm ?_); refine Ord.calm_skip rfl ?_ (fun K hK => ?_); (focus (simp [Region.wanted, yielded]; done))) | with_reducible refine Ord.walk_calm rfl rfl (fun K hK => ?_) | ((with_reducible refine Ord.at_wild ?_); refine Ord.wild_fieldAddr rfl rfl (fun W => by simp [go_sem]; rfl) (fun K hK => ?_)) | ((with_reducible refine Ord.at_wild ?_); refine Ord.wild_move rfl rfl (fun K hK => ?_)) | ((with_reducible refine Ord.at_wild ?_); refine Ord.wild_nilCheck rfl rfl (fun K hK => ?_)) | with_reducible refine Ord.walk_eff rfl (by first | (simp; done) | assumption | (go_simp; done) | (repeat (first | assumption | exact Below.refl _ _ | refine Below.drew ?_ | refine Below.alloc ?_ (by first | omega | (simp; done) | (simp; omega)) _ | refine Below.setCell ?_ (by first | omega | (simp; done) | (simp; omega)) _ | refine Below.trans ?_ (Below.mono (by assumption) (by first | omega | (simp; done) | (simp; omega)))))) (fun K hK => ?_) | with_reducible refine Ord.at_fork ?_ ?_ | with_reducible refine Ord.walk_nil ?_ | (with_reducible refine Ord.next_of (by first | (simp; done) | (go_simp; done) | (repeat (first | assumption | exact Below.refl _ _ | refine Below.drew ?_ | refine Below.alloc ?_ (by first | omega | (simp; done) | (simp; omega)) _ | refine Below.setCell ?_ (by first | omega | (simp; done) | (simp; omega)) _ | refine Below.trans ?_ (Below.mono (by assumption) (by first | omega | (simp; done) | (simp; omega)))))) (fun _ => ?_)))
                                all_goals unfold Stop
                                refine (HYv.out _ (Below.refl _ _)).mono ?_
                                rintro e w9 ⟨rfl, hb9⟩
                                have hB9 : Below wr.heap.size wr w9 := Below.trans (by (repeat (first | assumption | exact Below.refl _ _ | refine Below.drew ?_ | refine Below.alloc ?_ (by first | omega | (simp; done) | (simp; omega)) _ | refine Below.setCell ?_ (by first | omega | (simp; done) | (simp; omega)) _ | refine Below.trans ?_ (Below.mono (by assumption) (by first | omega | (simp; done) | (simp; omega)))))) (hb9.mono (by first | omega | (simp; done) | (simp; omega)))
                                have hS9 := hB9.size
                                have b46z := b46y.below hb9 b46y.lt
                                go_wp2_with (first
                                  | (refine wpList_store_blk 39 (.tmp 46) (.tmp 326) agg_span rfl rfl rfl rfl b46z rfl rfl (by simp [Value.oneCell']) ?_; intro w10 h10; refine at_stop ?_)
                                  | (with_reducible refine Ord.at_nm ?_)
                                  | ((with_reducible refine Ord.at_wild ?_); refine Ord.walk_wild_as rfl (.int .i64 r0) ?_ ?_; (focus (intro W hW; exact yields_extract (ix := 1) rfl rfl rfl)); intro K hK)
                                  | ((with_reducible refine Ord.at_wild ?_); refine Ord.walk_wild_as rfl (.agg #[.int .i64 o1, .int .i64 o2]) ?_ ?_; (focus (intro W hW; exact yields_extract (ix := 0) rfl rfl rfl)); intro K hK)
                                  | with_reducible refine Ord.top_two ?_ | with_reducible refine Ord.top_three ?_ | with_reducible refine Ord.at_two ?_ ?_ | with_reducible refine Ord.at_three ?_ ?_ ?_ | with_reducible refine Ord.tree_leaf ?_ | with_reducible refine Ord.tree_two ?_ | ((with_reducible refine Ord.at_calm ?_); refine Ord.calm_skip rfl ?_ (fun K hK => ?_); (focus (simp [Region.wanted, yielded]; done))) | with_reducible refine Ord.walk_calm rfl rfl (fun K hK => ?_) | ((with_reducible refine Ord.at_wild ?_); refine Ord.wild_fieldAddr rfl rfl (fun W => by simp [go_sem]; rfl) (fun K hK => ?_)) | ((with_reducible refine Ord.at_wild ?_); refine Ord.wild_move rfl rfl (fun K hK => ?_)) | ((with_reducible refine Ord.at_wild ?_); refine Ord.wild_nilCheck rfl rfl (fun K hK => ?_)) | with_reducible refine Ord.walk_eff rfl (by first | (simp; done) | assumption | (go_simp; done) | (repeat (first | assumption | exact Below.refl _ _ | refine Below.drew ?_ | refine Below.alloc ?_ (by first | omega | (simp; done) | (simp; omega)) _ | refine Below.setCell ?_ (by first | omega | (simp; done) | (simp; omega)) _ | refine Below.trans ?_ (Below.mono (by assumption) (by first | omega | (simp; done) | (simp; omega)))))) (fun K hK => ?_) | with_reducible refine Ord.at_fork ?_ ?_ | with_reducible refine Ord.walk_nil ?_ | (with_reducible refine Ord.next_of (by first | (simp; done) | (go_simp; done) | (repeat (first | assumption | exact Below.refl _ _ | refine Below.drew ?_ | refine Below.alloc ?_ (by first | omega | (simp; done) | (simp; omega)) _ | refine Below.setCell ?_ (by first | omega | (simp; done) | (simp; omega)) _ | refine Below.trans ?_ (Below.mono (by assumption) (by first | omega | (simp; done) | (simp; omega)))))) (fun _ => ?_)))
                                unfold Stop
                                have b46 := h10.blk
                                have hB10 : Below wr.heap.size wr w10 := h10.below (by first | exact hB9 | exact hB9.alloc hS9 _) (by first | omega | (simp; done) | exact Nat.le_refl _)
                                go_wp2_with (first
                                  | (with_reducible refine Ord.at_nm ?_)
                                  | with_reducible refine Ord.top_two ?_ | with_reducible refine Ord.top_three ?_ | with_reducible refine Ord.at_two ?_ ?_ | with_reducible refine Ord.at_three ?_ ?_ ?_ | with_reducible refine Ord.tree_leaf ?_ | with_reducible refine Ord.tree_two ?_ | ((with_reducible refine Ord.at_calm ?_); refine Ord.calm_skip rfl ?_ (fun K hK => ?_); (focus (simp [Region.wanted, yielded]; done))) | with_reducible refine Ord.walk_calm rfl rfl (fun K hK => ?_) | ((with_reducible refine Ord.at_wild ?_); refine Ord.wild_fieldAddr rfl rfl (fun W => by simp [go_sem]; rfl) (fun K hK => ?_)) | ((with_reducible refine Ord.at_wild ?_); refine Ord.wild_move rfl rfl (fun K hK => ?_)) | ((with_reducible refine Ord.at_wild ?_); refine Ord.wild_nilCheck rfl rfl (fun K hK => ?_)) | with_reducible refine Ord.walk_eff rfl (by first | (simp; done) | assumption | (go_simp; done) | (repeat (first | assumption | exact Below.refl _ _ | refine Below.drew ?_ | refine Below.alloc ?_ (by first | omega | (simp; done) | (simp; omega)) _ | refine Below.setCell ?_ (by first | omega | (simp; done) | (simp; omega)) _ | refine Below.trans ?_ (Below.mono (by assumption) (by first | omega | (simp; done) | (simp; omega)))))) (fun K hK => ?_) | with_reducible refine Ord.at_fork ?_ ?_ | with_reducible refine Ord.walk_nil ?_ | (with_reducible refine Ord.next_of (by first | (simp; done) | (go_simp; done) | (repeat (first | assumption | exact Below.refl _ _ | refine Below.drew ?_ | refine Below.alloc ?_ (by first | omega | (simp; done) | (simp; omega)) _ | refine Below.setCell ?_ (by first | omega | (simp; done) | (simp; omega)) _ | refine Below.trans ?_ (Below.mono (by assumption) (by first | omega | (simp; done) | (simp; omega)))))) (fun _ => ?_)))
                                go_meet
                                exact ⟨_, rfl, rfl, b46, hB10⟩
                              · refine (HYd.out _ (hBw.trans ((show Below wr.heap.size wr _ from by (repeat (first | assumption | exact Below.refl _ _ | refine Below.drew ?_ | refine Below.alloc ?_ (by first | omega | (simp; done) | (simp; omega)) _ | refine Below.setCell ?_ (by first | omega | (simp; done) | (simp; omega)) _ | refine Below.trans ?_ (Below.mono (by assumption) (by first | omega | (simp; done) | (simp; omega)))))).mono hBw.size))).mono ?_
                                rintro e ww ⟨v, rfl, hbw, hYv⟩
                                have hBs2 : Below wr.heap.size wr ww := Below.trans (by (repeat (first | assumption | exact Below.refl _ _ | refine Below.drew ?_ | refine Below.alloc ?_ (by first | omega | (simp; done) | (simp; omega)) _ | refine Below.setCell ?_ (by first | omega | (simp; done) | (simp; omega)) _ | refine Below.trans ?_ (Below.mono (by assumption) (by first | omega | (simp; done) | (simp; omega)))))) (hbw.mono (by first | omega | (simp; done) | (simp; omega)))
                                have hSz2 := hBs2.size
                                have HYv := Lib.hid hYv
                                clear hYv
                                have b46y : Blk ww wr.heap.size #[.int .i64 0, .int .i64 0] 39 := ((Blk.new wr.drew _ _).below hbs (by simp)).below hbw (by have := hbs.size; simp only [World.size_alloc, World.size_drew] at this ⊢; omega)
                                go_wp2_with (first
                                  | (go_at_call 22; refine at_stop ?_)
                                  | (with_reducible refine Ord.at_nm ?_)
                                  | with_reducible refine Ord.top_two ?_ | with_reducible refine Ord.top_three ?_ | with_reducible refine Ord.at_two ?_ ?_ | with_reducible refine Ord.at_three ?_ ?_ ?_ | with_reducible refine Ord.tree_leaf ?_ | with_reducible refine Ord.tree_two ?_ | ((with_reducible refine Ord.at_calm ?_); refine Ord.calm_skip rfl ?_ (fun K hK => ?_); (focus (simp [Region.wanted, yielded]; done))) | with_reducible refine Ord.walk_calm rfl rfl (fun K hK => ?_) | ((with_reducible refine Ord.at_wild ?_); refine Ord.wild_fieldAddr rfl rfl (fun W => by simp [go_sem]; rfl) (fun K hK => ?_)) | ((with_reducible refine Ord.at_wild ?_); refine Ord.wild_move rfl rfl (fun K hK => ?_)) | ((with_reducible refine Ord.at_wild ?_); refine Ord.wild_nilCheck rfl rfl (fun K hK => ?_)) | with_reducible refine Ord.walk_eff rfl (by first | (simp; done) | assumption | (go_simp; done) | (repeat (first | assumption | exact Below.refl _ _ | refine Below.drew ?_ | refine Below.alloc ?_ (by first | omega | (simp; done) | (simp; omega)) _ | refine Below.setCell ?_ (by first | omega | (simp; done) | (simp; omega)) _ | refine Below.trans ?_ (Below.mono (by assumption) (by first | omega | (simp; done) | (simp; omega)))))) (fun K hK => ?_) | with_reducible refine Ord.at_fork ?_ ?_ | with_reducible refine Ord.walk_nil ?_ | (with_reducible refine Ord.next_of (by first | (simp; done) | (go_simp; done) | (repeat (first | assumption | exact Below.refl _ _ | refine Below.drew ?_ | refine Below.alloc ?_ (by first | omega | (simp; done) | (simp; omega)) _ | refine Below.setCell ?_ (by first | omega | (simp; done) | (simp; omega)) _ | refine Below.trans ?_ (Below.mono (by assumption) (by first | omega | (simp; done) | (simp; omega)))))) (fun _ => ?_)))
                                all_goals unfold Stop
                                refine (HYv.out _ (Below.refl _ _)).mono ?_
                                rintro e w9 ⟨rfl, hb9⟩
                                have hB9 : Below wr.heap.size wr w9 := Below.trans (by (repeat (first | assumption | exact Below.refl _ _ | refine Below.drew ?_ | refine Below.alloc ?_ (by first | omega | (simp; done) | (simp; omega)) _ | refine Below.setCell ?_ (by first | omega | (simp; done) | (simp; omega)) _ | refine Below.trans ?_ (Below.mono (by assumption) (by first | omega | (simp; done) | (simp; omega)))))) (hb9.mono (by first | omega | (simp; done) | (simp; omega)))
                                have hS9 := hB9.size
                                have b46z := b46y.below hb9 b46y.lt
                                go_wp2_with (first
                                  | (refine wpList_store_blk 39 (.tmp 46) (.tmp 326) agg_span rfl rfl rfl rfl b46z rfl rfl (by simp [Value.oneCell']) ?_; intro w10 h10; refine at_stop ?_)
                                  | (with_reducible refine Ord.at_nm ?_)
                                  | ((with_reducible refine Ord.at_wild ?_); refine Ord.walk_wild_as rfl (.int .i64 r0) ?_ ?_; (focus (intro W hW; exact yields_extract (ix := 1) rfl rfl rfl)); intro K hK)
                                  | ((with_reducible refine Ord.at_wild ?_); refine Ord.walk_wild_as rfl (.agg #[.int .i64 o1, .int .i64 o2]) ?_ ?_; (focus (intro W hW; exact yields_extract (ix := 0) rfl rfl rfl)); intro K hK)
                                  | with_reducible refine Ord.top_two ?_ | with_reducible refine Ord.top_three ?_ | with_reducible refine Ord.at_two ?_ ?_ | with_reducible refine Ord.at_three ?_ ?_ ?_ | with_reducible refine Ord.tree_leaf ?_ | with_reducible refine Ord.tree_two ?_ | ((with_reducible refine Ord.at_calm ?_); refine Ord.calm_skip rfl ?_ (fun K hK => ?_); (focus (simp [Region.wanted, yielded]; done))) | with_reducible refine Ord.walk_calm rfl rfl (fun K hK => ?_) | ((with_reducible refine Ord.at_wild ?_); refine Ord.wild_fieldAddr rfl rfl (fun W => by simp [go_sem]; rfl) (fun K hK => ?_)) | ((with_reducible refine Ord.at_wild ?_); refine Ord.wild_move rfl rfl (fun K hK => ?_)) | ((with_reducible refine Ord.at_wild ?_); refine Ord.wild_nilCheck rfl rfl (fun K hK => ?_)) | with_reducible refine Ord.walk_eff rfl (by first | (simp; done) | assumption | (go_simp; done) | (repeat (first | assumption | exact Below.refl _ _ | refine Below.drew ?_ | refine Below.alloc ?_ (by first | omega | (simp; done) | (simp; omega)) _ | refine Below.setCell ?_ (by first | omega | (simp; done) | (simp; omega)) _ | refine Below.trans ?_ (Below.mono (by assumption) (by first | omega | (simp; done) | (simp; omega)))))) (fun K hK => ?_) | with_reducible refine Ord.at_fork ?_ ?_ | with_reducible refine Ord.walk_nil ?_ | (with_reducible refine Ord.next_of (by first | (simp; done) | (go_simp; done) | (repeat (first | assumption | exact Below.refl _ _ | refine Below.drew ?_ | refine Below.alloc ?_ (by first | omega | (simp; done) | (simp; omega)) _ | refine Below.setCell ?_ (by first | omega | (simp; done) | (simp; omega)) _ | refine Below.trans ?_ (Below.mono (by assumption) (by first | omega | (simp; done) | (simp; omega)))))) (fun _ => ?_)))
                                unfold Stop
                                have b46 := h10.blk
                                have hB10 : Below wr.heap.size wr w10 := h10.below (by first | exact hB9 | exact hB9.alloc hS9 _) (by first | omega | (simp; done) | exact Nat.le_refl _)
                                go_wp2_with (first
                                  | (with_reducible refine Ord.at_nm ?_)
                                  | with_reducible refine Ord.top_two ?_ | with_reducible refine Ord.top_three ?_ | with_reducible refine Ord.at_two ?_ ?_ | with_reducible refine Ord.at_three ?_ ?_ ?_ | with_reducible refine Ord.tree_leaf ?_ | with_reducible refine Ord.tree_two ?_ | ((with_reducible refine Ord.at_calm ?_); refine Ord.calm_skip rfl ?_ (fun K hK => ?_); (focus (simp [Region.wanted, yielded]; done))) | with_reducible refine Ord.walk_calm rfl rfl (fun K hK => ?_) | ((with_reducible refine Ord.at_wild ?_); refine Ord.wild_fieldAddr rfl rfl (fun W => by simp [go_sem]; rfl) (fun K hK => ?_)) | ((with_reducible refine Ord.at_wild ?_); refine Ord.wild_move rfl rfl (fun K hK => ?_)) | ((with_reducible refine Ord.at_wild ?_); refine Ord.wild_nilCheck rfl rfl (fun K hK => ?_)) | with_reducible refine Ord.walk_eff rfl (by first | (simp; done) | assumption | (go_simp; done) | (repeat (first | assumption | exact Below.refl _ _ | refine Below.drew ?_ | refine Below.alloc ?_ (by first | omega | (simp; done) | (simp; omega)) _ | refine Below.setCell ?_ (by first | omega | (simp; done) | (simp; omega)) _ | refine Below.trans ?_ (Below.mono (by assumption) (by first | omega | (simp; done) | (simp; omega)))))) (fun K hK => ?_) | with_reducible refine Ord.at_fork ?_ ?_ | with_reducible refine Ord.walk_nil ?_ | (with_reducible refine Ord.next_of (by first | (simp; done) | (go_simp; done) | (repeat (first | assumption | exact Below.refl _ _ | refine Below.drew ?_ | refine Below.alloc ?_ (by first | omega | (simp; done) | (simp; omega)) _ | refine Below.setCell ?_ (by first | omega | (simp; done) | (simp; omega)) _ | refine Below.trans ?_ (Below.mono (by assumption) (by first | omega | (simp; done) | (simp; omega)))))) (fun _ => ?_)))
                                go_meet
                                exact ⟨_, rfl, rfl, b46, hB10⟩
                          case rest =>
                            obtain ⟨p46, rfl, rfl, b46, hbx⟩ := hcut
                            have b21x := b21r.below hbx b21r.lt
                            have hBr2 : Below z1 wl wc := hBr.trans (hbx.mono (by omega))
                            have hc := hc7.out
                            have l46 := b46.lt
                            have hs2 := hbx.size
                            clear hc7 HYd HSe b303 bbl b21l bbr b21r hBl hBw hbx HA
                            go_upto_region 45 with fail
                            rcases hc with ⟨hin0, hin1, hcv⟩ | ⟨hin, hcv⟩
                            · simp only [Prod.mk.injEq] at hcv
                              obtain ⟨⟨h1, h2⟩, rfl⟩ := hcv
                              rw [h1, h2] at b46
                              clear h1 h2
                              have hin' : insideB d lo hi' = true := by unfold insideB; exact decide_eq_true ⟨hin0, hin1⟩
                              have HI1 : Hid (∀ W, Calls Try.prog 32 #[.int .i64 d, .agg #[.int .i64 lo, .int .i64 hi']] W (Gives (.bool true) W)) := fun W => by have := l_inside d lo hi' W; rwa [hin'] at this
                              clear hin'
                              refine Ord.wp_regionN [(0, 0), (1, 0), (2, 0), (3, 0), (4, 0), (5, 0), (6, 0), (7, 1), (8, 1), (9, 0), (10, 0), (11, 2), (12, 0), (13, 0), (14, 0), (15, 0), (16, 0), (17, 0), (18, 1), (19, 0), (20, 0), (21, 2), (22, 0), (23, 0), (24, 0)] (fun W => Below wc.heap.size wc W) (by kernel_rfl) (by kernel_rfl) (Below.refl _ _).drew ?_
                              go_wp2_with (first
                                | ((with_reducible refine Ord.at_wild ?_); refine Ord.walk_skip rfl rfl (fun K hK => ?_))
                                | ((with_reducible refine Ord.at_wild ?_); refine Ord.wild_load (ad := ⟨p46, 0, none⟩) (.agg #[.int .i64 d, .int .i64 d]) rfl rfl ?_ ?_; (focus (intro W hW; exact loadVar_blk agg_span (b46.below hW l46) rfl)); intro K hK)
                                | (refine wpList_load_blk 39 (.tmp 21) agg_span rfl rfl rfl b21x.drew rfl ?_)
                                | ((with_reducible refine Ord.at_wild ?_); refine Ord.wild_binOp (.bool true) rfl (fun W => by simp [go_sem]; done) (fun K hK => ?_))
                                | (go_at_call 32; refine (HI1.out _).mono ?_; rintro e w30 ⟨rfl, hb30⟩; have hB30 : Below wc.heap.size wc w30 := Below.trans (by (repeat (first | assumption | exact Below.refl _ _ | refine Below.drew ?_ | refine Below.alloc ?_ (by first | omega | (simp; done) | (simp; omega)) _ | refine Below.setCell ?_ (by first | omega | (simp; done) | (simp; omega)) _ | refine Below.trans ?_ (Below.mono (by assumption) (by first | omega | (simp; done) | (simp; omega)))))) (hb30.mono (by first | omega | (simp; done) | (simp; omega))); have hs30 := hB30.size)
                                | (go_at_call 20; refine (HSp.out _ _ _).mono ?_; rintro e w31 ⟨rfl, hb31⟩; have hB31 : Below wc.heap.size wc w31 := Below.trans hB30 (hb31.mono (by first | omega | (simp; done) | (simp; omega))))
                                | ((with_reducible refine Ord.at_calm ?_); refine Ord.walk_calm_g rfl rfl rfl ?_; intro K hK)
                                | ((with_reducible refine Ord.at_calm ?_); refine Ord.calm_skip rfl rfl (fun K hK => ?_))
                                | ((with_reducible refine Ord.at_eff ?_); refine Ord.walk_skip rfl rfl (fun K hK => ?_))
                                | ((with_reducible refine Ord.at_eff ?_); refine Ord.walk_eff_g rfl ?_ rfl ?_; (focus (first | assumption | exact (Below.refl _ _).drew)); intro K hK)
                                | (with_reducible refine Ord.at_nm ?_)
                                | ((with_reducible refine Ord.at_calm ?_); refine Ord.calm_skip rfl ?_ (fun K hK => ?_); (focus (simp [Region.wanted, yielded]; done))) | with_reducible refine Ord.walk_calm rfl rfl (fun K hK => ?_) | ((with_reducible refine Ord.at_wild ?_); refine Ord.wild_fieldAddr rfl rfl (fun W => by simp [go_sem]; rfl) (fun K hK => ?_)) | ((with_reducible refine Ord.at_wild ?_); refine Ord.wild_move rfl rfl (fun K hK => ?_)) | ((with_reducible refine Ord.at_wild ?_); refine Ord.wild_nilCheck rfl rfl (fun K hK => ?_)) | with_reducible refine Ord.walk_eff rfl (by first | (simp; done) | assumption | (go_simp; done) | (repeat (first | assumption | exact Below.refl _ _ | refine Below.drew ?_ | refine Below.alloc ?_ (by first | omega | (simp; done) | (simp; omega)) _ | refine Below.setCell ?_ (by first | omega | (simp; done) | (simp; omega)) _ | refine Below.trans ?_ (Below.mono (by assumption) (by first | omega | (simp; done) | (simp; omega)))))) (fun K hK => ?_) | with_reducible refine Ord.at_fork ?_ ?_ | with_reducible refine Ord.walk_nil ?_ | (with_reducible refine Ord.next_of (by first | (simp; done) | (go_simp; done) | (repeat (first | assumption | exact Below.refl _ _ | refine Below.drew ?_ | refine Below.alloc ?_ (by first | omega | (simp; done) | (simp; omega)) _ | refine Below.setCell ?_ (by first | omega | (simp; done) | (simp; omega)) _ | refine Below.trans ?_ (Below.mono (by assumption) (by first | omega | (simp; done) | (simp; omega)))))) (fun _ => ?_)))
                              exact ⟨⟨k' + 1, by omega, by go_num, hBr2.trans (Below.mono (by assumption) (by omega))⟩, by simp [intOf]; omega⟩
                            · simp only [Prod.mk.injEq] at hcv
                              obtain ⟨⟨h1, h2⟩, rfl⟩ := hcv
                              clear h1 h2
                              have hin' : insideB d lo hi' = false := by unfold insideB; exact decide_eq_false hin
                              have HI1 : Hid (∀ W, Calls Try.prog 32 #[.int .i64 d, .agg #[.int .i64 lo, .int .i64 hi']] W (Gives (.bool false) W)) := fun W => by have := l_inside d lo hi' W; rwa [hin'] at this
                              clear hin'
                              refine Ord.wp_regionN [(0, 0), (1, 0), (2, 0), (3, 0), (4, 0), (5, 0), (6, 0), (7, 1), (8, 1), (9, 0), (10, 0), (11, 2), (12, 0), (13, 0), (14, 0), (15, 0), (16, 0), (17, 0), (18, 1), (19, 0), (20, 0), (21, 2), (22, 0), (23, 0), (24, 0)] (fun W => Below wc.heap.size wc W) (by kernel_rfl) (by kernel_rfl) (Below.refl _ _).drew ?_
                              go_wp2_with (first
                                | ((with_reducible refine Ord.at_wild ?_); refine Ord.walk_skip rfl rfl (fun K hK => ?_))
                                | ((with_reducible refine Ord.at_wild ?_); refine Ord.wild_load (ad := ⟨p46, 0, none⟩) (.agg #[.int .i64 d, .int .i64 d]) rfl rfl ?_ ?_; (focus (intro W hW; exact loadVar_blk agg_span (b46.below hW l46) rfl)); intro K hK)
                                | (refine wpList_load_blk 39 (.tmp 21) agg_span rfl rfl rfl b21x.drew rfl ?_)
                                | ((with_reducible refine Ord.at_wild ?_); refine Ord.wild_binOp (.bool false) rfl (fun W => by simp [go_sem]; done) (fun K hK => ?_))
                                | (go_at_call 32; refine (HI1.out _).mono ?_; rintro e w30 ⟨rfl, hb30⟩; have hB30 : Below wc.heap.size wc w30 := Below.trans (by (repeat (first | assumption | exact Below.refl _ _ | refine Below.drew ?_ | refine Below.alloc ?_ (by first | omega | (simp; done) | (simp; omega)) _ | refine Below.setCell ?_ (by first | omega | (simp; done) | (simp; omega)) _ | refine Below.trans ?_ (Below.mono (by assumption) (by first | omega | (simp; done) | (simp; omega)))))) (hb30.mono (by first | omega | (simp; done) | (simp; omega))); have hs30 := hB30.size)
                                | (go_at_call 20; refine (HSp.out _ _ _).mono ?_; rintro e w31 ⟨rfl, hb31⟩; have hB31 : Below wc.heap.size wc w31 := Below.trans hB30 (hb31.mono (by first | omega | (simp; done) | (simp; omega))))
                                | ((with_reducible refine Ord.at_calm ?_); refine Ord.walk_calm_g rfl rfl rfl ?_; intro K hK)
                                | ((with_reducible refine Ord.at_calm ?_); refine Ord.calm_skip rfl rfl (fun K hK => ?_))
                                | ((with_reducible refine Ord.at_eff ?_); refine Ord.walk_skip rfl rfl (fun K hK => ?_))
                                | ((with_reducible refine Ord.at_eff ?_); refine Ord.walk_eff_g rfl ?_ rfl ?_; (focus (first | assumption | exact (Below.refl _ _).drew)); intro K hK)
                                | (with_reducible refine Ord.at_nm ?_)
                                | ((with_reducible refine Ord.at_calm ?_); refine Ord.calm_skip rfl ?_ (fun K hK => ?_); (focus (simp [Region.wanted, yielded]; done))) | with_reducible refine Ord.walk_calm rfl rfl (fun K hK => ?_) | ((with_reducible refine Ord.at_wild ?_); refine Ord.wild_fieldAddr rfl rfl (fun W => by simp [go_sem]; rfl) (fun K hK => ?_)) | ((with_reducible refine Ord.at_wild ?_); refine Ord.wild_move rfl rfl (fun K hK => ?_)) | ((with_reducible refine Ord.at_wild ?_); refine Ord.wild_nilCheck rfl rfl (fun K hK => ?_)) | with_reducible refine Ord.walk_eff rfl (by first | (simp; done) | assumption | (go_simp; done) | (repeat (first | assumption | exact Below.refl _ _ | refine Below.drew ?_ | refine Below.alloc ?_ (by first | omega | (simp; done) | (simp; omega)) _ | refine Below.setCell ?_ (by first | omega | (simp; done) | (simp; omega)) _ | refine Below.trans ?_ (Below.mono (by assumption) (by first | omega | (simp; done) | (simp; omega)))))) (fun K hK => ?_) | with_reducible refine Ord.at_fork ?_ ?_ | with_reducible refine Ord.walk_nil ?_ | (with_reducible refine Ord.next_of (by first | (simp; done) | (go_simp; done) | (repeat (first | assumption | exact Below.refl _ _ | refine Below.drew ?_ | refine Below.alloc ?_ (by first | omega | (simp; done) | (simp; omega)) _ | refine Below.setCell ?_ (by first | omega | (simp; done) | (simp; omega)) _ | refine Below.trans ?_ (Below.mono (by assumption) (by first | omega | (simp; done) | (simp; omega)))))) (fun _ => ?_)))
                              exact ⟨⟨k' + 1, by omega, by go_num, hBr2.trans (Below.mono (by assumption) (by omega))⟩, by simp [intOf]; omega⟩
                    · have hlti : ¬ (k' : Int) < 4 := by omega
                      go_wp2_with (first
                        | (go_at_call 12; refine (HA.out _).mono ?_; rintro e w30 ⟨rfl, hb30⟩))
                      (try go_ret)
                      exact ⟨rfl, hBw.trans (hb30.mono hBw.size)⟩
end Go.Proofs.Yteeinehpneppnaa
