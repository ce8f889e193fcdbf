/- Parts of a proof: MoW, MoCB. -/
import Derived.Test.YteeinehpneppnaaQ26
import Derived.Deep.CutRange
import Derived.Test.YteeinehpneppnaaQ23
import Derived.Laws.CopyOwn
set_option linter.unusedVariables false
set_option linter.unusedSimpArgs false
namespace Go.Proofs.Yteeinehpneppnaa
open Go.RowKit Go.Proofs
attribute [local irreducible] Ord.walk
attribute [local go_sem] Oper.semAt_some
/-- What a range over told keeps in Where. -/
structure WhAt (m : Mb) (i : Nat) (d : Int) (wp z p9 p10 n0 s : Nat) (q2 q3 q4 : Int) (w : World) (n : Nat) (A : World) : Prop where
  c8 : Blk A z #[.pointer (some ⟨wp, 0, none⟩)] 80
  c9 : Blk A p9 #[.int .i64 ((whereTo m i d n : Nat) : Int)] 3
  c10 : Blk A p10 #[.int .i64 (s : Int), .int .i64 q2, .int .i64 q3, .int .i64 q4] 116
  b1 : Blk A (n0 + 1) #[.int .i64 (i : Int)] 3
  b2 : Blk A (n0 + 2) #[.int .i64 d] 3
  b4 : Blk A (n0 + 3) #[.int .i64 0] 30
  below : Below n0 w A
theorem WhAt.lets_ {X : Nat → Option Obj → Prop} {m : Mb} {i : Nat} {d : Int} {wp z p9 p10 n0 s n : Nat} {q2 q3 q4 : Int} {w A B : World} (h : WhAt m i d wp z p9 p10 n0 s q2 q3 q4 w n A) (hl : Lets X A B) (hn : n0 ≤ w.heap.size) (hx : ∀ j o, X j o → n0 + 4 ≤ j) (hz : ∀ j o, X j o → j ≠ z ∧ j ≠ p9 ∧ j ≠ p10) : WhAt m i d wp z p9 p10 n0 s q2 q3 q4 w n B := by
  have h0 : ∀ j o, j < n0 + 4 → ¬ X j o := fun j o hj e => by have := hx _ _ e; omega
  exact ⟨hl.blk h.c8 (fun e => (hz _ _ e).1 rfl), hl.blk h.c9 (fun e => (hz _ _ e).2.1 rfl), hl.blk h.c10 (fun e => (hz _ _ e).2.2 rfl), hl.blk h.b1 (h0 _ _ (by omega)), hl.blk h.b2 (h0 _ _ (by omega)), hl.blk h.b4 (h0 _ _ (by omega)), below_lets h.below hl hn (fun j o hj => h0 j o (by omega))⟩
theorem whereTo_lt {m : Mb} (hv : validM m = true) {i : Nat} (hi : i < m.herds.length) (d : Int) (k : Nat) : whereTo m i d k < 64 := by
  refine orL_lt (by omega) _ fun p hp => ?_
  obtain ⟨L, -, hL⟩ := List.mem_flatMap.1 hp
  obtain ⟨n, -, rfl⟩ := List.mem_map.1 hL
  have := validM_len hv
  have h2 := (startN_eq hv hi).2
  have := nowTo_in (m := m) L (startN m i) n d (m.places.length - startN m i) (by omega) (by omega)
  unfold nowP
  omega
set_option maxHeartbeats 40000000 in
set_option maxRecDepth 100000 in
theorem m_Where_ok {m : Mb} {A : Ma} (i : Nat) (d : Int) (w : World) (hl : Mlen m) (hm : MbAt w m A) (hv : validM m = true) (hi : (herdB m i && inB d 0 100) = true) (hk : knownM m = true) :
    Calls Try.prog 23 #[mv m A, .int .i64 (i : Int), .int .i64 d] w (Gives2 (.int .i64 (whereN m i d : Nat)) (.int .i64 0) w) := by
  have hih : i < m.herds.length := by
    rw [Bool.and_eq_true] at hi
    have h1 := inB_of hi.1
    omega
  have hdd : 0 ≤ d ∧ d ≤ 100 := by
    rw [Bool.and_eq_true] at hi
    exact inB_of hi.2
  have hh4 : (m.herds.length : Int) ≤ 4 := by have := validM_len hv; omega
  have hii : (i : Int) < (m.herds.length : Int) := by omega
  have HHd := Lib.hid (hm.herds.get4 hih)
  have hmf := hmf_mob
  have HO : Hid (∀ W, Below w.heap.size w W → Blk W (w.heap.size + 1) #[.int .i64 (i : Int)] 3 → Blk W (w.heap.size + 2) #[.int .i64 d] 3 → Calls Try.prog 42 #[mv m A, .func (.func 79) #[] #[.pointer (some ⟨w.heap.size + 1, 0, none⟩), .pointer (some ⟨w.heap.size + 2, 0, none⟩)]] W (fun e w' => ∃ wp mb pa pc, e = .returned (.pointer (some ⟨wp, 0, none⟩)) ∧ Opened w' wp m A pa pc mb ∧ Below W.heap.size W w' ∧ W.heap.size ≤ wp ∧ W.heap.size ≤ mb)) := fun W hb b1 b2 =>
    (m_open m A 79 #[.pointer (some ⟨w.heap.size + 1, 0, none⟩), .pointer (some ⟨w.heap.size + 2, 0, none⟩)] ((herdB m i && inB d 0 100)) W hl (hm.below hb) (fun args W => Try.call79 args W) (fun hv W' wp mb pa pc hw hb' => m_herdDayC _ _ i d W' hl hw (b1.below hb' b1.lt) (b2.below hb' b2.lt))).mono fun e w' h => open_ok h hv hi
  clear hl hm
  unfold mv mcells at *
  refine callsIn_wide.1 (callsIn_of_wp_marks (F := Fence.wide) (n := 0) Try.func23 rfl trivial (wpIn_wide.2 ?_) rfl)
  simp only [Try.ntmps23, List.size_toArray, List.length_cons, List.length_nil, Nat.reduceAdd, Nat.reduceSub, Array.replicate_succ, Array.replicate_zero, List.push_toArray, List.append_toArray, List.nil_append, List.cons_append]
  go_wp2_with (first
    | (go_at_call 42; refine at_stop ?_))
  unfold Stop
  obtain ⟨W5, hW5⟩ : ∃ W5, ((((w.alloc (.cells #[.slice A.pa m.places.length A.pc, .slice A.la m.legs.length A.lc, .slice A.ha m.herds.length A.hc, .slice A.sa m.seen.length A.sc] 27)).alloc (.cells #[.int .i64 (i : Int)] 3)).alloc (.cells #[.int .i64 d] 3)).alloc (.cells #[.int .i64 0] 30)) = W5 := ⟨_, rfl⟩
  have hB5 : Below w.heap.size w W5 := by rw [← hW5]; (repeat (first | assumption | exact Below.refl _ _ | refine Below.drew ?_ | refine Below.alloc ?_ (by first | omega | (simp; done) | (simp; omega)) _ | refine Below.setCell ?_ (by first | omega | (simp; done) | (simp; omega)) _ | refine Below.trans ?_ (Below.mono (by assumption) (by first | omega | (simp; done) | (simp; omega)))))
  have b1 : Blk W5 (w.heap.size + 1) #[.int .i64 (i : Int)] 3 := by rw [← hW5]; exact (((Blk.new' _ _ _ _ (by simp)).alloc _).alloc _)
  have b2 : Blk W5 (w.heap.size + 2) #[.int .i64 d] 3 := by rw [← hW5]; exact ((Blk.new' _ _ _ _ (by simp)).alloc _)
  have b4 : Blk W5 (w.heap.size + 3) #[.int .i64 0] 30 := by rw [← hW5]; exact Blk.new' _ _ _ _ (by simp)
  have bm : Blk W5 w.heap.size #[.slice A.pa m.places.length A.pc, .slice A.la m.legs.length A.lc, .slice A.ha m.herds.length A.hc, .slice A.sa m.seen.length A.sc] 27 := by rw [← hW5]; exact (((Blk.new _ _ _).alloc _).alloc _).alloc _
  have hs5 : W5.heap.size = w.heap.size + 4 := by rw [← hW5]; simp
  rw [hW5]
  refine (HO.out W5 hB5 b1 b2).mono ?_
  rintro e w6 ⟨wp, mb, pa, pc, rfl, hO, hb6, hwp, hmb⟩
  have hs6 := hb6.size
  have hmb6 := hO.mb_lt
  have hW6 : Way w6 mb m w6 := ⟨hO.kept, Lets.refl _ _⟩
  have HKn := Lib.hid (m_known_yes hv hO w6 hW6 hk)
  go_wp2_with (first
    | (go_at_call 45; refine HKn.out.mono ?_; rintro e w7 ⟨rfl, hW7, hl7⟩; refine at_stop ?_))
  unfold Stop
  have hs7 := hl7.size
  have b17 := hl7.blk (b1.below hb6 b1.lt) (by omega)
  have b27 := hl7.blk (b2.below hb6 b2.lt) (by omega)
  have b47 := hl7.blk (b4.below hb6 b4.lt) (by omega)
  have bm7 := hl7.blk (bm.below hb6 bm.lt) (by omega)
  have hB7 : Below w.heap.size w w7 := below_lets (hB5.trans (hb6.mono (by omega))) hl7 (Nat.le_refl _) (fun _ _ _ => by omega)
  have hs5a : W5.heap.size ≤ w.heap.size + 4 ∧ w.heap.size + 4 ≤ W5.heap.size := by omega
  clear hW5 hi hk hs5 b1 b2 b4 bm HO
  obtain ⟨gb, go, e0, e1, e2, e3, e4⟩ := HHd.out
  have hgb := World.block_lt_of_cell? w _ e1
  simp only at hgb
  have g1 := (hB7.cell (p := ⟨gb, go + i * 4, none⟩) hgb).trans e1
  have g2 := (hB7.cell (p := ⟨gb, go + i * 4 + 1, none⟩) hgb).trans e2
  have g3 := (hB7.cell (p := ⟨gb, go + i * 4 + 2, none⟩) hgb).trans e3
  have g4 := (hB7.cell (p := ⟨gb, go + i * 4 + 3, none⟩) hgb).trans e4
  clear e1 e2 e3 e4
  go_upto_region 3 with fail
  obtain ⟨W8, hW8⟩ : ∃ W8, w7.alloc (.cells #[.pointer (some ⟨wp, 0, none⟩)] 80) = W8 := ⟨_, rfl⟩
  have hs8 : W8.heap.size = w7.heap.size + 1 := by rw [← hW8]; simp
  have hB8 : Below w7.heap.size w7 W8 := by rw [← hW8]; (repeat (first | assumption | exact Below.refl _ _ | refine Below.drew ?_ | refine Below.alloc ?_ (by first | omega | (simp; done) | (simp; omega)) _ | refine Below.setCell ?_ (by first | omega | (simp; done) | (simp; omega)) _ | refine Below.trans ?_ (Below.mono (by assumption) (by first | omega | (simp; done) | (simp; omega)))))
  have b8 : Blk W8 w7.heap.size #[.pointer (some ⟨wp, 0, none⟩)] 80 := by rw [← hW8]; exact Blk.new _ _ _
  have hWy8 := hW7.below hB8 hmb6
  have b18 := b17.below hB8 b17.lt
  have b28 := b27.below hB8 b27.lt
  have b48 := b47.below hB8 b47.lt
  have bm8 := bm7.below hB8 bm7.lt
  have hBw : Below w.heap.size w W8 := hB7.trans (hB8.mono (by omega))
  have k1 := (hB8.cell (p := ⟨gb, go + i * 4, none⟩) (by simp only; omega)).trans g1
  have k2 := (hB8.cell (p := ⟨gb, go + i * 4 + 1, none⟩) (by simp only; omega)).trans g2
  have k3 := (hB8.cell (p := ⟨gb, go + i * 4 + 2, none⟩) (by simp only; omega)).trans g3
  have k4 := (hB8.cell (p := ⟨gb, go + i * 4 + 3, none⟩) (by simp only; omega)).trans g4
  have HST := Lib.hid (startN_eq hv hih)
  have HHD : Hid (∃ hd, hd = m.herds[i]) := ⟨_, rfl⟩
  obtain ⟨hd, hhd⟩ := HHD.out
  rw [← hhd] at k1 k2 k3 k4 HST
  obtain ⟨q1, q2, q3, q4⟩ := hd
  simp only at k1 k2 k3 k4
  rw [hW8]
  generalize hz7 : w7.heap.size = z7 at *
  have hz7a : z7 ≤ w7.heap.size ∧ w7.heap.size ≤ z7 ∧ w6.heap.size ≤ z7 := by omega
  have hs8a : W8.heap.size ≤ z7 + 1 ∧ z7 + 1 ≤ W8.heap.size := by omega
  have rm := bm8.cell
  have r1 := b18.cell
  clear hW8 hs8 hz7 g1 g2 g3 g4 b17 b27 b47 bm7 HHD HHd
  have HE0 := Lib.hid e0
  clear e0
  go_cut [9, 10] from 22 to 26 (fun x y wx => ∃ p9 p10 : Nat, x = .pointer (some ⟨p9, 0, none⟩) ∧ y = .pointer (some ⟨p10, 0, none⟩) ∧ p9 ≠ p10 ∧ W8.heap.size ≤ p9 ∧ W8.heap.size ≤ p10 ∧ Blk wx p9 #[.int .i64 0] 3 ∧ Blk wx p10 #[.int .i64 q1, .int .i64 q2, .int .i64 q3, .int .i64 q4] 116 ∧ Below W8.heap.size W8 wx)
  case first =>
    have hI0 : Below W8.heap.size W8 W8.drew := (Below.refl _ _).drew
    have hl8 := b18.lt
    have hm8 := bm8.lt
    have hgb8 : gb < W8.heap.size := by omega
    refine Ord.wp_regionTN 4 (.fork2 [(0, 1), (1, 1), (2, 1), (3, 1), (4, 1)] 5 (.leaf [(6, 2), (7, 2), (8, 2)]) 6 (.leaf [(5, 2), (7, 2), (8, 2)])) (fun W => Below W8.heap.size W8 W) (by kernel_rfl) (by kernel_rfl) hI0 ?_
    go_wp2_with (first
      | ((with_reducible refine Ord.at_wild ?_); refine Ord.wild_load (ad := ⟨w.heap.size, 2, none⟩) (.slice A.ha m.herds.length A.hc) rfl rfl ?_ ?_; (focus (intro W hW; have r := (bm8.below hW hm8).cell; simp [go_sem, r]; done)); intro K hK)
      | ((with_reducible refine Ord.at_wild ?_); refine Ord.wild_load (ad := ⟨w.heap.size + 1, 0, none⟩) (.int .i64 (i : Int)) rfl rfl ?_ ?_; (focus (intro W hW; have r := (b18.below hW hl8).cell; simp [go_sem, r]; done)); intro K hK)
      | ((with_reducible refine Ord.at_wild ?_); refine Ord.wild_load (ad := ⟨gb, go + i * 4, none⟩) (.agg #[.int .i64 q1, .int .i64 q2, .int .i64 q3, .int .i64 q4]) rfl rfl ?_ ?_; (focus (intro W hW; have y1 := (hW.cell (p := ⟨gb, go + i * 4, none⟩) hgb8).trans k1; have y2 := (hW.cell (p := ⟨gb, go + i * 4 + 1, none⟩) hgb8).trans k2; have y3 := (hW.cell (p := ⟨gb, go + i * 4 + 2, none⟩) hgb8).trans k3; have y4 := (hW.cell (p := ⟨gb, go + i * 4 + 3, none⟩) hgb8).trans k4; simp [go_sem, y1, y2, y3, y4]; done)); intro K hK)
      | ((with_reducible refine Ord.at_wild ?_); refine Ord.wild_idx (.pointer (some ⟨gb, go + i * 4, none⟩)) rfl ?_ ?_; (focus (intro W hW; simp [go_sem, hii, HE0.out]; done)); intro K hK)
      | (with_reducible refine Ord.at_nm ?_)
      | with_reducible refine Ord.top_two ?_ | with_reducible refine Ord.top_three ?_ | with_reducible refine Ord.at_two ?_ ?_ | with_reducible refine Ord.at_three ?_ ?_ ?_ | with_reducible refine Ord.tree_leaf ?_ | with_reducible refine Ord.tree_two ?_ | ((with_reducible refine Ord.at_calm ?_); refine Ord.calm_skip rfl ?_ (fun K hK => ?_); (focus (simp [Region.wanted, yielded]; done))) | with_reducible refine Ord.walk_calm rfl rfl (fun K hK => ?_) | ((with_reducible refine Ord.at_wild ?_); refine Ord.wild_fieldAddr rfl rfl (fun W => by simp [go_sem]; rfl) (fun K hK => ?_)) | ((with_reducible refine Ord.at_wild ?_); refine Ord.wild_move rfl rfl (fun K hK => ?_)) | ((with_reducible refine Ord.at_wild ?_); refine Ord.wild_nilCheck rfl rfl (fun K hK => ?_)) | with_reducible refine Ord.walk_eff rfl (by first | (simp; done) | assumption | (go_simp; done) | (repeat (first | assumption | exact Below.refl _ _ | refine Below.drew ?_ | refine Below.alloc ?_ (by first | omega | (simp; done) | (simp; omega)) _ | refine Below.setCell ?_ (by first | omega | (simp; done) | (simp; omega)) _ | refine Below.trans ?_ (Below.mono (by assumption) (by first | omega | (simp; done) | (simp; omega)))))) (fun K hK => ?_) | with_reducible refine Ord.at_fork ?_ ?_ | with_reducible refine Ord.walk_nil ?_ | (with_reducible refine Ord.next_of (by first | (simp; done) | (go_simp; done) | (repeat (first | assumption | exact Below.refl _ _ | refine Below.drew ?_ | refine Below.alloc ?_ (by first | omega | (simp; done) | (simp; omega)) _ | refine Below.setCell ?_ (by first | omega | (simp; done) | (simp; omega)) _ | refine Below.trans ?_ (Below.mono (by assumption) (by first | omega | (simp; done) | (simp; omega)))))) (fun _ => ?_)))
    all_goals go_meet
    all_goals (first
      | exact ⟨W8.heap.size, W8.heap.size + 1, rfl, rfl, by omega, by omega, by omega, ((Blk.new _ _ _).alloc _).drew, (Blk.new' _ _ _ _ (by simp)).drew, by (repeat (first | assumption | exact Below.refl _ _ | refine Below.drew ?_ | refine Below.alloc ?_ (by first | omega | (simp; done) | (simp; omega)) _ | refine Below.setCell ?_ (by first | omega | (simp; done) | (simp; omega)) _ | refine Below.trans ?_ (Below.mono (by assumption) (by first | omega | (simp; done) | (simp; omega)))))⟩
      | exact ⟨W8.heap.size + 1, W8.heap.size, rfl, rfl, by omega, by omega, by omega, (Blk.new' _ _ _ _ (by simp)).drew, ((Blk.new _ _ _).alloc _).drew, by (repeat (first | assumption | exact Below.refl _ _ | refine Below.drew ?_ | refine Below.alloc ?_ (by first | omega | (simp; done) | (simp; omega)) _ | refine Below.setCell ?_ (by first | omega | (simp; done) | (simp; omega)) _ | refine Below.trans ?_ (Below.mono (by assumption) (by first | omega | (simp; done) | (simp; omega)))))⟩)
  case rest =>
    obtain ⟨p9, p10, rfl, rfl, hpq, hp9, hp10, c9, c10, hBx⟩ := hcut
    have c8 := b8.below hBx b8.lt
    have c1 := b18.below hBx b18.lt
    have c2 := b28.below hBx b28.lt
    have c4 := b48.below hBx b48.lt
    have hWyx := hWy8.below hBx hmb6
    have hBw2 : Below w.heap.size w wc := hBw.trans (hBx.mono (by omega))
    have hsx := hBx.size
    have HT := Lib.hid (fun W => m_told wp (everyN m) W)
    have HE := Lib.hid (m_everyW hv hO wc.drew hWyx.drew)
    have hE5 := everyN_lt hv
    have r8 := c8.cell
    clear k1 k2 k3 k4 rm r1 b8 b18 b28 b48 bm8
    go_wp2_with fail
    refine Ord.wp_regionN [(0, 0), (1, 0), (2, 0), (3, 2)] (fun _ => True) (by kernel_rfl) (by kernel_rfl) trivial ?_
    go_wp2_with (first
      | (go_at_call 46; refine (HT.out _).mono ?_; rintro e w11 ⟨rfl, hT11, hb11, hs11⟩)
      | (with_reducible refine Ord.at_nm ?_)
      | ((with_reducible refine Ord.at_calm ?_); refine Ord.calm_skip rfl ?_ (fun K hK => ?_); (focus (simp [Region.wanted, yielded]; done))) | with_reducible refine Ord.walk_calm rfl rfl (fun K hK => ?_) | ((with_reducible refine Ord.at_wild ?_); refine Ord.wild_fieldAddr rfl rfl (fun W => by simp [go_sem]; rfl) (fun K hK => ?_)) | ((with_reducible refine Ord.at_wild ?_); refine Ord.wild_move rfl rfl (fun K hK => ?_)) | ((with_reducible refine Ord.at_wild ?_); refine Ord.wild_nilCheck rfl rfl (fun K hK => ?_)) | with_reducible refine Ord.walk_eff rfl (by first | (simp; done) | assumption | (go_simp; done) | (repeat (first | assumption | exact Below.refl _ _ | refine Below.drew ?_ | refine Below.alloc ?_ (by first | omega | (simp; done) | (simp; omega)) _ | refine Below.setCell ?_ (by first | omega | (simp; done) | (simp; omega)) _ | refine Below.trans ?_ (Below.mono (by assumption) (by first | omega | (simp; done) | (simp; omega)))))) (fun K hK => ?_) | with_reducible refine Ord.at_fork ?_ ?_ | with_reducible refine Ord.walk_nil ?_ | (with_reducible refine Ord.next_of (by first | (simp; done) | (go_simp; done) | (repeat (first | assumption | exact Below.refl _ _ | refine Below.drew ?_ | refine Below.alloc ?_ (by first | omega | (simp; done) | (simp; omega)) _ | refine Below.setCell ?_ (by first | omega | (simp; done) | (simp; omega)) _ | refine Below.trans ?_ (Below.mono (by assumption) (by first | omega | (simp; done) | (simp; omega)))))) (fun _ => ?_))
      | ((with_reducible refine Ord.at_calm ?_); refine Ord.calm_call rfl (fun W => Try.call47 _ W) (HE.out) (fun K hK => ?_)) | ((with_reducible refine Ord.at_wild ?_); refine Ord.wild_call rfl (fun W => Try.call47 _ W) (fun W hW => HE.out) (fun K hK => ?_)))
    have HSN := HST.out
    (try simp only at HSN)
    have hq1 := HSN.1
    have hs2n := HSN.2
    subst hq1
    have d8 := c8.drew.below hb11 c8.lt
    have d9 := c9.drew.below hb11 c9.lt
    have d10 := c10.drew.below hb11 c10.lt
    have d1 := c1.drew.below hb11 c1.lt
    have d2 := c2.drew.below hb11 c2.lt
    have d4 := c4.drew.below hb11 c4.lt
    have l9 := c9.lt
    have l10 := c10.lt
    have hWy11 := hWyx.drew.below hb11 hmb6
    have hs11b := hb11.size
    (try simp only [World.size_drew] at hs11 hs11b hT11)
    have hBw11 : Below w.heap.size w w11 := hBw2.trans (hb11.undrew.mono (by omega))
    have hs11a : w11.heap.size ≤ wc.heap.size + 2 ∧ wc.heap.size + 2 ≤ w11.heap.size := by omega
    clear hs11 c8 c9 c10 c1 c2 c4 r8 hb11
    have hw0 : whereTo m i d 0 = 0 := rfl
    have h0 : WhAt m i d wp z7 p9 p10 w.heap.size (startN m i) q2 q3 q4 w 0 w11 := ⟨d8, by rw [hw0]; exact d9, d10, d1, d2, d4, hBw11⟩
    clear d8 d9 d10 d1 d2 d4 hw0
    generalize hN : w11.heap.size = N at *
    have HN := Lib.hid hN
    have hNw : w11.heap.size ≤ N ∧ N ≤ w11.heap.size := by omega
    clear hN
    generalize htb : wc.heap.size = tb at *
    clear htb
    unfold toldF
    refine (wpIn_wide (n := 0)).1 (wp_rangeL (encs := fun L => #[.agg (legC L)]) (xs := toldL m (everyN m)) (XI := fun j _ => j = mb ∨ (N + 2 ≤ j ∧ j < N + 9)) (XB := fun j _ => j = mb ∨ j = p9) (Mid := fun W' => Way w6 mb m W' ∧ N + 9 ≤ W'.heap.size)
      (fun n A => WhAt m i d wp z7 p9 p10 w.heap.size (startN m i) q2 q3 q4 w n A) (fun c A => False)
      rfl Try.call94 (fun _ => rfl)
      (fun W1 hb1 hs1 => ?seq)
      (fun j o h1 h2 => by omega) (fun j o h1 h2 => by omega)
      (fun n A B h hl => h.lets_ hl (by omega) (fun j o e => by omega) (fun j o e => by omega))
      (fun c A B h hl => h)
      (fun n A B h hl => h.lets_ hl (by omega) (fun j o e => by omega) (fun j o e => by omega))
      (fun c A B h hl => h)
      (fun A B h hl => ⟨h.1.lets hl hmb6 (fun _ _ e => by omega), Nat.le_trans h.2 hl.size⟩) h0 ?round ?done ?stop)
    case seq =>
      have hs4 : W1.heap.size = N + 2 := by rw [hs1, HN.out]
      have hWy1 : Way w6 mb m W1 := hWy11.below hb1 hmb6
      have := told_seq hv hO (everyN m) (by omega) tb (w11.heap.size + 1) W1 hWy1 ⟨hT11.b0.below hb1 hT11.b0.lt, hT11.b1.below hb1 hT11.b1.lt⟩ (by omega) (fun j o => (j = mb ∨ j = p9) ∨ j = w11.heap.size + 1) (fun k o e => by have := HN.out; omega)
      rw [hs4] at this
      exact this
    case round =>
      intro n hn A' hI hM hsz hrec
      have hLm : (toldL m (everyN m))[n] ∈ prodL m.legs := (List.mem_filter.1 (List.getElem_mem hn)).1
      have HS1 := Lib.hid (whereTo_succ (i := i) (day := d) hn)
      have hSl := whereTo_lt hv hih d n
      unfold RoundOkL
      generalize (toldL m (everyN m))[n] = L at *
      gi_wp2_with fail
      refine ⟨(Lets.refl _ _).alloc _, fun W₂ hl2 hs2 r2 hr2 hI2 hWy2 hbig => ?_⟩
      have b11 : Blk W₂ A'.heap.size (legC L) 90 := hl2.blk (Blk.new _ _ _) (by omega)

      have hs2b : W₂.heap.size ≤ A'.heap.size + 1 ∧ A'.heap.size + 1 ≤ W₂.heap.size := by rw [hs2]; simp

      clear hl2 hs2 hI hM
      refine wpIn_block ?_
      refine where_round hv hO hLm i hih (startN m i) (by omega) q2 q3 q4 d (whereTo m i d n) hSl (w11.heap.size + 1) _ ?hq ?hp W₂ (w.heap.size + 1) (w.heap.size + 2) z7 p9 p10 A'.heap.size hWy2 hI2.c8 hI2.b1 hI2.b2 hI2.c9 hI2.c10 b11 ⟨_, hr2⟩ (by omega) (by omega) (by omega) ?hx
      case hq => exact fun ⟨_, _, h⟩ => h
      case hp => exact fun c a w h => h
      intro x12 x13 x14 x15 x16 x32 x33 x34 x35 x36 x37 x38 x39 x40 x41 x42 x43 x44 x45 x46 x47 x48 x49 x50 x51 x52 x53 x54 x55 x56 x57 x58 x59 x60 x61 x62 x63 x64 x65 x66 W' hW' hL' hB'
      simp only [Exit.inBlock]
      refine ⟨hL', ⟨hW', Nat.le_trans hbig hL'.size⟩, hL'.blk hI2.c8 (by omega), ?_, hL'.blk hI2.c10 (by omega), hL'.blk hI2.b1 (by omega), hL'.blk hI2.b2 (by omega), hL'.blk hI2.b4 (by omega), below_lets hI2.below hL' (Nat.le_refl _) (fun _ _ _ => by omega)⟩
      rw [HS1.out]
      exact hB'
    case done =>
      intro W hI hM hD
      have HW : Hid (whereN m i d = whereTo m i d (toldL m (everyN m)).length) := rfl
      have r9 := hI.c9.cell
      have r4 := hI.b4.cell
      have f4 := hI.b4.free
      have l4 := hI.b4.lt
      have hbl := hI.below
      have hb4 := hI.b4
      clear hI
      generalize whereTo m i d (toldL m (everyN m)).length = S at *
      simp only [Exit.inBlock, Exit.then]
      go_wp2_with fail
      have hD' : (W.setCell ⟨w.heap.size + 3, 0, none⟩ (.int .i64 0)).heap[w11.heap.size]? = some (.deferred (some [])) := (Below.heap_setCell W ⟨w.heap.size + 3, 0, none⟩ _ _ (by simp only; omega)).trans hD
      refine post_out1 (v := .tuple #[.int .i64 ((S : Nat) : Int), .int .i64 0]) catch_Where (fun W => by simp [go_sem]) rfl hD' fun w' hl hs => ⟨?_, by rw [HW.out], below_lets (hbl.setCell (by first | (simp; done) | (simp; omega)) _) hl (Nat.le_refl _) (fun _ _ _ => by omega)⟩
      have r4f := (hl.blk (hb4.set 0 (.int .i64 0)) (by omega)).cell
      simp [results, Try.results23, go_sem, r4f]
    case stop =>
      intro c W h
      exact h.elim
def whereP (m : Mb) (i d : Int) : Int × Int := if knownP m (herdB m i && inB d 0 100) = 0 then ((whereN m i.toNat d : Nat), 0) else (0, knownP m (herdB m i && inB d 0 100))
theorem m_Where {m : Mb} {A : Ma} (i d : Int) (w : World) (hl : Mlen m) (hm : MbAt w m A) :
    Calls Try.prog 23 #[mv m A, .int .i64 i, .int .i64 d] w (Gives2 (.int .i64 (whereP m i d).1) (.int .i64 (whereP m i d).2) w) := by
  unfold whereP
  rcases knownP_cases m (herdB m i && inB d 0 100) with ⟨h1, h2⟩ | ⟨hv, hi, hk, h2⟩ | ⟨hv, hi, hk, h2⟩
  · rw [if_neg h2]; exact m_Where_stop i d w hl hm h1
  · rw [h2, if_neg (by simp)]; exact m_Where_clash i d w hl hm hv hi hk
  · rw [if_pos h2]
    have hi2 := hi
    rw [Bool.and_eq_true] at hi2
    have b1 := inB_of hi2.1
    obtain ⟨i', rfl⟩ : ∃ i' : Nat, i = (i' : Int) := ⟨i.toNat, by omega⟩
    exact m_Where_ok i' d w hl hm hv hi hk
end Go.Proofs.Yteeinehpneppnaa
set_option linter.unusedVariables false
set_option linter.unusedSimpArgs false
namespace Go.Proofs.Yteeinehpneppnaa
open Go.RowKit Go.Proofs
attribute [local irreducible] Ord.walk
theorem Try.info87 : (Try.prog.info? 87).map (fun i => (i.zero, i.size, i.bytes)) = some (some (.int .u64 0), 1, 8) := by kernel_rfl
theorem Lets.of_below_n {n : Nat} {w w' : World} (h : Below n w w') : Lets (fun j _ => n ≤ j) w w' := ⟨h.os, h.tape, h.output, h.size, fun k hk hx => h.block k (by omega)⟩
/-- What Clash returns. -/
def clashF (m : Mb) : Option Nat := (Stab.bySize m.seen.length).find? fun x => !canM m x
def clashV (m : Mb) : Int × Int := match clashF m with | some x => ((x : Nat), 0) | none => (0, 4)
/-- A row that is filled as far as k. -/
def fillC (k n : Nat) : Array Value := ((List.range k).map u64V ++ List.replicate (n - k) (u64V 0)).toArray
theorem fillC_set {k n : Nat} (h : k < n) : (fillC k n).setIfInBounds k (u64V k) = fillC (k + 1) n := by
  unfold fillC
  apply Array.toList_inj.1
  rw [Array.toList_setIfInBounds]
  obtain ⟨r, hr⟩ : ∃ r, n - k = r + 1 := ⟨n - k - 1, by omega⟩
  rw [hr, show n - (k + 1) = r by omega, List.replicate_succ, List.range_succ]
  simp
theorem fillC_zero (n : Nat) : fillC 0 n = Array.replicate n (.int .u64 0) := by
  unfold fillC u64V
  simp
theorem fillC_next {k n : Nat} (h : k < n) : (fillC k n)[k]? = some (.int .u64 0) := by
  unfold fillC
  rw [List.getElem?_toArray, List.getElem?_append_right (by simp), List.getElem?_replicate]
  simp [u64V]
  omega
theorem fillC_get {n j : Nat} (h : j < n) : (fillC n n)[j]? = some (u64V j) := by
  unfold fillC
  simp [h]
set_option maxHeartbeats 40000000 in
set_option maxRecDepth 100000 in
theorem m_Clash_ok {m : Mb} {A : Ma} (w : World) (hl : Mlen m) (hm : MbAt w m A) (hv : validM m = true) :
    Calls Try.prog 17 #[mv m A] w (Gives2 (.int .i64 (clashV m).1) (.int .i64 (clashV m).2) w) := by
  have hlen := validM_len hv
  have hmf := hmf_mob
  have HO : Hid (∀ W, Below w.heap.size w W → Calls Try.prog 42 #[mv m A, .func (.func 61) #[] #[]] W (fun e w' => ∃ wp mb pa pc, e = .returned (.pointer (some ⟨wp, 0, none⟩)) ∧ Opened w' wp m A pa pc mb ∧ Below W.heap.size W w' ∧ W.heap.size ≤ wp ∧ W.heap.size ≤ mb)) := fun W hb  =>
    (m_open m A 61 #[] (true) W hl (hm.below hb) (fun args W => Try.call61 args W) (fun hv W' wp mb pa pc hw hb' => (m_always _ W').mono fun e w' h => ⟨h.1, h.2 ▸ Below.refl _ _⟩)).mono fun e w' h => open_ok h hv rfl
  clear hl hm
  unfold mv mcells at *
  refine callsIn_wide.1 (callsIn_of_wp_marks (F := Fence.wide) (n := 0) Try.func17 rfl trivial (wpIn_wide.2 ?_) rfl)
  simp only [Try.ntmps17, List.size_toArray, List.length_cons, List.length_nil, Nat.reduceAdd, Nat.reduceSub, Array.replicate_succ, Array.replicate_zero, List.push_toArray, List.append_toArray, List.nil_append, List.cons_append]
  go_wp2_with (first
    | (go_at_call 42; refine at_stop ?_))
  unfold Stop
  obtain ⟨W5, hW5⟩ : ∃ W5, ((w.alloc (.cells #[.slice A.pa m.places.length A.pc, .slice A.la m.legs.length A.lc, .slice A.ha m.herds.length A.hc, .slice A.sa m.seen.length A.sc] 27)).alloc (.cells #[.int .i64 0] 30)) = W5 := ⟨_, rfl⟩
  have hB5 : Below w.heap.size w W5 := by rw [← hW5]; (repeat (first | assumption | exact Below.refl _ _ | refine Below.drew ?_ | refine Below.alloc ?_ (by first | omega | (simp; done) | (simp; omega)) _ | refine Below.setCell ?_ (by first | omega | (simp; done) | (simp; omega)) _ | refine Below.trans ?_ (Below.mono (by assumption) (by first | omega | (simp; done) | (simp; omega)))))
  have b4 : Blk W5 (w.heap.size + 1) #[.int .i64 0] 30 := by rw [← hW5]; exact Blk.new' _ _ _ _ (by simp)
  have hs5 : W5.heap.size = w.heap.size + 2 := by rw [← hW5]; simp
  rw [hW5]
  refine (HO.out W5 hB5).mono ?_
  rintro e w6 ⟨wp, mb, pa, pc, rfl, hO, hb6, hwp, hmb⟩
  have hs6 := hb6.size
  have hmb6 := hO.mb_lt
  have hW6 : Way w6 mb m w6 := ⟨hO.kept, Lets.refl _ _⟩
  have b46 := b4.below hb6 b4.lt
  have hB6 : Below w.heap.size w w6 := hB5.trans (hb6.mono (by omega))
  obtain ⟨W8, hW8⟩ : ∃ W8, w6.alloc (.cells #[.pointer (some ⟨wp, 0, none⟩)] 80) = W8 := ⟨_, rfl⟩
  have hb8 : Below w6.heap.size w6 W8 := by rw [← hW8]; (repeat (first | assumption | exact Below.refl _ _ | refine Below.drew ?_ | refine Below.alloc ?_ (by first | omega | (simp; done) | (simp; omega)) _ | refine Below.setCell ?_ (by first | omega | (simp; done) | (simp; omega)) _ | refine Below.trans ?_ (Below.mono (by assumption) (by first | omega | (simp; done) | (simp; omega)))))
  have b8 : Blk W8 w6.heap.size #[.pointer (some ⟨wp, 0, none⟩)] 80 := by rw [← hW8]; exact Blk.new _ _ _
  have hs8 : W8.heap.size = w6.heap.size + 1 := by rw [← hW8]; simp
  have hW8w : Way w6 mb m W8 := hW6.below hb8 hmb6
  have b48 := b46.below hb8 b46.lt
  have hB8 : Below w.heap.size w W8 := hB6.trans (hb8.mono (by omega))
  have HE := Lib.hid (m_everyW hv hO W8 hW8w)
  have hEe : everyN m = 2 ^ m.seen.length - 1 := rfl
  obtain ⟨K, hK⟩ : ∃ K, m.seen.length = K := ⟨_, rfl⟩
  obtain ⟨E, hE⟩ : ∃ E : Nat, 2 ^ K = E + 1 := ⟨2 ^ K - 1, by have := Nat.two_pow_pos K; omega⟩
  have hE1 : everyN m = E := by rw [hEe, hK]; omega
  have hK5 : K ≤ 5 := by omega
  have hE32 : E < 32 := by
    have h2 := Nat.pow_le_pow_right (show 0 < 2 by omega) hK5
    have e8 : (2 : Nat) ^ 5 = 32 := rfl
    omega
  rw [hE1] at HE
  have HKK := Lib.hid hK
  have HEE := Lib.hid hE
  clear hEe hE1 hE hK hW5 HO b4
  have r8 := b8.cell
  obtain ⟨i0, hi0, hz0, hz1, hz2⟩ := info_parts Try.info87
  have HEI : Hid ((E : Int) + 1 = ((E + 1 : Nat) : Int)) := by show _ = _; omega
  have HBB : Hid (i0.bytes * (E + 1) ≤ 281474976710656) := by show _ ≤ _; rw [hz2]; omega
  have HML : Hid (E + 1 ≤ maxLen) := by show _ ≤ _; unfold maxLen; omega
  have HZ1 := Lib.hid hz1
  have HZ0 := Lib.hid hz0
  have HI0 := Lib.hid hi0
  clear hz1 hz0 hi0 hz2
  go_upto_region 3 with fail
  (try rw [hW8])
  generalize hp4 : w6.heap.size = p4 at *
  have HP4 := Lib.hid hp4
  have hp4a : w6.heap.size ≤ p4 ∧ p4 ≤ w6.heap.size := by omega
  have hs8a : W8.heap.size ≤ p4 + 1 ∧ p4 + 1 ≤ W8.heap.size := by omega
  clear hp4 hW8 hs8
  go_wp2_with (first
    | (go_at_call 47; refine HE.out.mono ?_; rintro e w' ⟨rfl, rfl⟩)
    | (refine wpList_make_blk rfl (.tmp 14) (.tmp 14) 103 rfl 87 i0 (.int .u64 0) Try.underlying103 HI0.out HZ0.out HZ1.out rfl .u64 .u64 _ _ (E + 1) (E + 1) rfl rfl HEI.out HEI.out (Nat.le_refl _) HBB.out HML.out ?_)
    | (at_builtin; refine at_stop ?_))
  obtain ⟨W9, hW9⟩ : ∃ W9, W8.alloc (.cells (Array.replicate (E + 1) (.int .u64 0)) 87) = W9 := ⟨_, rfl⟩
  have hb9 : Below W8.heap.size W8 W9 := by rw [← hW9]; (repeat (first | assumption | exact Below.refl _ _ | refine Below.drew ?_ | refine Below.alloc ?_ (by first | omega | (simp; done) | (simp; omega)) _ | refine Below.setCell ?_ (by first | omega | (simp; done) | (simp; omega)) _ | refine Below.trans ?_ (Below.mono (by assumption) (by first | omega | (simp; done) | (simp; omega)))))
  have bg : Blk W9 W8.heap.size (fillC 0 (E + 1)) 87 := by rw [← hW9, fillC_zero]; exact Blk.new _ _ _
  have hs9 : W9.heap.size = W8.heap.size + 1 := by rw [← hW9]; simp
  (try rw [hW9])
  clear hW9
  have b89 := b8.below hb9 b8.lt
  have b49 := b48.below hb9 b48.lt
  have hW9w := hW8w.below hb9 (by omega)
  have hB9 : Below w.heap.size w W9 := hB8.trans (hb9.mono (by omega))
  generalize hg1 : W8.heap.size = g1 at *
  have hg1a : g1 ≤ p4 + 1 ∧ p4 + 1 ≤ g1 := by omega
  have hs9a : W9.heap.size ≤ g1 + 1 ∧ g1 + 1 ≤ W9.heap.size := by omega
  clear hg1 hs9 r8 b8 b46 b48 hs8a
  go_loopw [18] (fun iv wr => ∃ k : Nat, k ≤ E + 1 ∧ iv = .int .i64 (k : Int) ∧ Below g1 W9 wr ∧ Blk wr g1 (fillC k (E + 1)) 87) (fun iv _ => E + 1 - (intOf iv).toNat)
  case atStart => exact ⟨0, by omega, rfl, Below.refl _ _, bg⟩
  case round =>
    clear bg
    obtain ⟨k, hk, rfl, hBr, hgr⟩ := hrel
    have hgl := hgr.lt
    have hfr := hgr.free
    by_cases hlt : k < E + 1
    · have hlti : (k : Int) < ((E + 1 : Nat) : Int) := by omega
      have hk32 : (k : Int) < 32 := by omega
      have hck : wr.cell? ⟨g1, k, none⟩ = some (.int .u64 0) := by rw [hgr.cell]; exact fillC_next hlt
      have hfk := hfr k
      have hset : Blk (wr.setCell ⟨g1, k, none⟩ (.int .u64 (k : Nat))) g1 (fillC (k + 1) (E + 1)) 87 := by
        have := hgr.set k (u64V k)
        rwa [fillC_set hlt] at this
      clear hgr
      go_wp2_with fail
      exact ⟨⟨k + 1, by omega, by go_num, hBr.setCell (by simp) _, hset⟩, by simp [intOf]; omega⟩
    · have hlti : ¬ (k : Int) < ((E + 1 : Nat) : Int) := by omega
      obtain rfl : k = E + 1 := by omega
      have hB4 := hB9.trans (hBr.mono (by omega))
      have b44 := b49.below hBr (by omega)
      have b84 := b89.below hBr (by omega)
      have hW4w : Way w6 mb m wr := hW9w.lets (Lets.of_below_n hBr) (by omega) (fun j _ e => by omega)
      obtain ⟨Wb, hWb⟩ : ∃ Wb, wr.alloc (.cells (Array.replicate (E + 1) (.int .u64 0)) 87) = Wb := ⟨_, rfl⟩
      have hbb : Below wr.heap.size wr Wb := by rw [← hWb]; (repeat (first | assumption | exact Below.refl _ _ | refine Below.drew ?_ | refine Below.alloc ?_ (by first | omega | (simp; done) | (simp; omega)) _ | refine Below.setCell ?_ (by first | omega | (simp; done) | (simp; omega)) _ | refine Below.trans ?_ (Below.mono (by assumption) (by first | omega | (simp; done) | (simp; omega)))))
      have bg2 : Blk Wb wr.heap.size (Array.replicate (E + 1) (.int .u64 0)) 87 := by rw [← hWb]; exact Blk.new _ _ _
      have hg1b := hgr.below hbb hgl
      have b4b := b44.below hbb b44.lt
      have b8b := b84.below hbb b84.lt
      have hWbw := hW4w.below hbb (by omega)
      have hBb := hB4.trans (hbb.mono (by have := hB4.size; omega))
      have hsz1 : (Try.prog.info? 87).map (·.size) = some 1 := by rw [HI0.out]; simp [HZ1.out]
      have HSZ := Lib.hid hsz1
      have hgl2 := bg2.lt
      have hsrc : Hid (∀ j v, ((List.range (E + 1)).map u64V)[j]? = some v → Wb.cell? ((⟨g1, 0, none⟩ : Addr).add j) = some v) := by
        intro j v hj
        have hje : j < E + 1 := by
          by_cases h : j < E + 1
          · exact h
          · rw [List.getElem?_eq_none (by simp; omega)] at hj; cases hj
        have := hg1b.cell j
        rw [fillC_get hje] at this
        simp [hje] at hj
        subst hj
        by_cases h0 : j = 0
        · subst h0; simpa [Addr.add] using this
        · simpa [Addr.add, h0] using this
      have hn : Hid (((List.range (E + 1)).map u64V).length = Nat.min (E + 1) (E + 1)) := by show _ = _; simp
      have hfit : Hid (0 + ((List.range (E + 1)).map u64V).length ≤ (Array.replicate (E + 1) (Value.int .u64 0)).size) := by show _ ≤ _; simp
      have hone : Hid (∀ v ∈ (List.range (E + 1)).map u64V, v.oneCell' = true) := by
        intro v hv
        obtain ⟨j, -, rfl⟩ := List.mem_map.1 hv
        rfl
      have HBG2 : Hid (Wb.heap[wr.heap.size]? = some (.cells (Array.replicate (E + 1) (.int .u64 0)) 87 (0, 0))) := bg2
      clear hsz1 hBr hgr hfr b44 b84 hB4 hW4w b89 b49 hW9w hB9
      have hg2a : g1 + 1 ≤ wr.heap.size := by omega
      go_wp2_with (first
        | (refine wpList_make_blk rfl (.tmp 28) (.tmp 28) 103 rfl 87 i0 (.int .u64 0) Try.underlying103 HI0.out HZ0.out HZ1.out rfl .i64 .i64 _ _ (E + 1) (E + 1) rfl rfl HEI.out HEI.out (Nat.le_refl _) HBB.out HML.out ?_)
        | (at_builtin; refine at_stop ?_))
      have hcp := run_copy_row (P := Try.prog) Wb 103 103 3 87 wr.heap.size 0 (E + 1) (E + 1) ⟨g1, 0, none⟩ (E + 1) (E + 1) (Array.replicate (E + 1) (.int .u64 0)) 87 ((List.range (E + 1)).map u64V) Try.underlying103 HSZ.out HBG2.out hn.out hsrc.out hfit.out hone.out
      rw [hcp]
      obtain ⟨Wc, hWc⟩ : ∃ Wc, Wb.setRow wr.heap.size ((Array.replicate (E + 1) (Value.int .u64 0)).toList.take 0 ++ (List.range (E + 1)).map u64V ++ (Array.replicate (E + 1) (Value.int .u64 0)).toList.drop (0 + ((List.range (E + 1)).map u64V).length)).toArray = Wc := ⟨_, rfl⟩
      have hbc : Below wr.heap.size Wb Wc := by rw [← hWc]; exact below_setRow (Below.refl _ _) (Nat.le_refl _) _
      have hbg3 : Blk Wc wr.heap.size ((List.range (E + 1)).map u64V).toArray 87 := by
        rw [← hWc]
        have := setRow_heap Wb wr.heap.size _ ((Array.replicate (E + 1) (Value.int .u64 0)).toList.take 0 ++ (List.range (E + 1)).map u64V ++ (Array.replicate (E + 1) (Value.int .u64 0)).toList.drop (0 + ((List.range (E + 1)).map u64V).length)).toArray _ _ HBG2.out
        simp only [List.take_zero, List.nil_append, List.length_map, List.length_range, Nat.zero_add] at this ⊢
        rw [show (Array.replicate (E + 1) (Value.int .u64 0)).toList.drop (E + 1) = [] by simp, List.append_nil] at this ⊢
        exact this
      rw [hWc]
      clear hcp hWc hsrc hn hfit hone HBG2 bg2 hg1b
      simp only [List.length_map, List.length_range]
      have hbcn := Lets.of_below_n hbc
      have hg2b := hbg3.lt
      have b4c := b4b.below hbc (by omega)
      have b8c := b8b.below hbc (by omega)
      have hWcw : Way w6 mb m Wc := hWbw.lets hbcn (by omega) (fun j _ e => by omega)
      have hBc : Below w.heap.size w Wc := hBb.trans (hbc.mono (by omega))
      have hK8 : K ≤ 8 := by omega
      have hSo : Hid (Calls Try.prog 62 #[.slice (some ⟨wr.heap.size, 0, none⟩) (E + 1) (E + 1), .func (.func 63) #[] #[]] Wc (SortedAll wr.heap.size K Wc)) := by
        have := m_sortAll Wc K wr.heap.size (E + 1) _ hK8 hbg3 (fun j hj => by rw [HEE.out] at hj; simp [hj])
        rwa [HEE.out] at this
      clear hbc hbg3 hWbw b4b b8b hBb hbcn
      have hg2n : g1 + 1 ≤ wr.heap.size := hg2a
      generalize wr.heap.size = g2 at *
      go_wp2_with (first
        | (go_at_call 62; refine hSo.out.mono ?_; rintro e w5 ⟨rfl, hB5, hU, hgl⟩; refine at_stop ?_))
      unfold Stop
      have hb5n := Lets.of_below_n hB5
      have b45 := b4c.below hB5 (by omega)
      have b85 := b8c.below hB5 (by omega)
      have hW5w : Way w6 mb m w5 := hWcw.lets hb5n (by omega) (fun j _ e => by omega)
      have hBw5 : Below w.heap.size w w5 := hBc.trans (hB5.mono (by omega))
      obtain ⟨-, hlen2, hall⟩ := Stab.bySize_all K hK8
      have hall2 : ∀ x ∈ Stab.bySize K, x < 256 := by
        intro x hx
        have := List.all_eq_true.1 hall x hx
        rw [Nat.blt_eq] at this
        have h1 := HEE.out
        omega
      rw [HEE.out] at hlen2
      have HP : ∀ w' x, Way w6 mb m w' → Lets (fun j _ => j = mb) w5 w' → x < 256 → Calls Try.prog 66 (#[.int .u64 (x : Nat)] ++ #[.pointer (some ⟨p4, 0, none⟩)]) w' (GivesW w6 mb m (.bool (!canM m x)) w') := fun w' x hw' hl' hx => m_clash3 hv hO p4 x hx w' hw' ((hl'.blk b85 (by omega)).cell 0)
      have hcf : ∀ (args : Array Value) (W : World), (callFunc 66 args).run Try.prog W = .ok (.enter 66 args) W := fun args W => Try.call66 args W
      clear hSo hB5 hb5n b4c b8c hWcw hBc HE
      cases hf : (Stab.bySize K).find? (fun x => !canM m x) with
      | none =>
        have hno := List.find?_eq_none.1 hf
        have HV : Hid (clashV m = (0, 4)) := by show _ = _; unfold clashV clashF; rw [HKK.out, hf]
        have HIx : Hid (Calls Try.prog 65 #[.slice (some ⟨g2, 0, none⟩) (E + 1) (E + 1), .func (.func 66) #[] #[.pointer (some ⟨p4, 0, none⟩)]] w5 (GivesW w6 mb m (.int .i64 (-1)) w5)) := by
          have := m_idx 66 #[.pointer (some ⟨p4, 0, none⟩)] (fun x => !canM m x) (Stab.bySize K) g2 (E + 1) (Stab.bySize K).length (-1) w5 (by omega) hall2 (Nat.le_refl _) (fun j h => by simpa using hno _ (List.getElem_mem h)) (fun h => absurd h (by omega)) (fun h => absurd h (by omega)) (fun _ => rfl) hcf hU hgl w6 mb m (by omega) hW5w (by omega) HP
          rwa [hlen2] at this
        have HM := Lib.hid m_must_no
        clear hU HP hall hall2 hf hno hlen2
        go_wp2_with (first
          | (go_at_call 65; refine HIx.out.mono ?_; rintro e w7 ⟨rfl, hW7, hl7⟩)
          | (go_at_call 68; refine (HM.out _ _).mono ?_; rintro e w' ⟨rfl, rfl⟩))
        refine post_catch (v := .tuple #[.int .i64 0, .int .i64 4]) catch_Clash (fun W => by simp [go_sem]) rfl (hl7.blk b45 (by omega)) fun w' hl hb => ⟨?_, by rw [HV.out], ?_⟩
        · have r4 := hb.cell
          simp [results, Try.results17, go_sem, r4]
        · exact below_lets (below_lets hBw5 hl7 (Nat.le_refl _) (fun _ _ _ => by omega)) hl (Nat.le_refl _) (fun _ _ _ => by omega)
      | some y =>
        obtain ⟨hy, n, hn, hny, hlo⟩ := List.find?_eq_some_iff_getElem.1 hf
        have HV : Hid (clashV m = ((y : Int), 0)) := by show _ = _; unfold clashV clashF; rw [HKK.out, hf]
        have HIx : Hid (Calls Try.prog 65 #[.slice (some ⟨g2, 0, none⟩) (E + 1) (E + 1), .func (.func 66) #[] #[.pointer (some ⟨p4, 0, none⟩)]] w5 (GivesW w6 mb m (.int .i64 (n : Int)) w5)) := by
          have := m_idx 66 #[.pointer (some ⟨p4, 0, none⟩)] (fun x => !canM m x) (Stab.bySize K) g2 (E + 1) n (n : Int) w5 (by omega) hall2 (by omega) (fun j h => by simpa using hlo j h) (fun h => by rw [hny]; exact hy) (fun _ => rfl) (fun h => absurd h (by omega)) hcf hU hgl w6 mb m (by omega) hW5w (by omega) HP
          rwa [hlen2] at this
        have HM := Lib.hid m_must_yes
        have hyi : y < 256 := by rw [← hny]; exact hall2 _ (List.getElem_mem hn)
        have hun : w5.cell? ⟨g2, n, none⟩ = some (.int .u64 (y : Nat)) := by have := hU n hn; rwa [hny] at this
        have hnE : (n : Int) < ((E + 1 : Nat) : Int) := by omega
        clear hU HP hall hall2 hf hlen2 hlo hny
        go_wp2_with (first
          | (go_at_call 65; refine HIx.out.mono ?_; rintro e w7 ⟨rfl, hW7, hl7⟩; have c7 := hl7.cell hun (by simp only; omega); have b47 := hl7.blk b45 (by omega); have r4 := b47.cell; have f4 := b47.free)
          | (go_at_call 68; refine (HM.out _ _).mono ?_; rintro e w' ⟨rfl, rfl⟩))
        have r4f := (b47.set 0 (.int .i64 0)).cell
        have hbf : Below w.heap.size w (w7.setCell ⟨w.heap.size + 1, 0, none⟩ (.int .i64 0)) := (below_lets hBw5 hl7 (Nat.le_refl _) (fun _ _ _ => by omega)).setCell (by simp) _
        refine post_out (v := .tuple #[.int .i64 (y : Nat), .int .i64 0]) catch_Clash (fun W => by simp [go_sem]) rfl ?_ ⟨by rw [HV.out], hbf⟩
        simp [results, Try.results17, go_sem, r4f]
def clashP (m : Mb) : Int × Int := if validM m = true then clashV m else (0, 1)
theorem m_Clash {m : Mb} {A : Ma} (w : World) (hl : Mlen m) (hm : MbAt w m A) :
    Calls Try.prog 17 #[mv m A] w (Gives2 (.int .i64 (clashP m).1) (.int .i64 (clashP m).2) w) := by
  unfold clashP
  cases hv : validM m
  · have := m_Clash_stop w hl hm (.inl hv)
    have hk : knownP m true = 1 := by unfold knownP; simp [hv]
    rw [hk] at this
    exact this
  · exact m_Clash_ok w hl hm hv
end Go.Proofs.Yteeinehpneppnaa
