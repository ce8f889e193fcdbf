/- Parts of a proof: MvC. -/
import Derived.Test.YteeinehpneppnaaW44
/- The law MobTrue walked: valid ways. (Printed by mkMvC.py) -/
set_option linter.unusedVariables false
set_option linter.unusedSimpArgs false
namespace Go.Proofs.Yteeinehpneppnaa
open Go.RowKit Go.Proofs
attribute [local irreducible] Ord.walk
set_option maxHeartbeats 40000000 in
set_option maxRecDepth 100000 in
theorem w_True_main (m : Mb) (A : Ma) (bl : List Int) (ab : Option Addr) (bc : Nat) (n2 : Nat) (hn2 : n2 < 256) (w : World) (hm : MbAt w m A) (hv : validM m = true) (hbr : RowsAt w ab 1 u16c bl) (hbl : bl.length ≤ maxLen) (hbx : ∀ x ∈ bl, 0 ≤ x ∧ x < 65536) :
    Calls Try.prog 5 #[mv m A, .slice ab bl.length bc, .int .u8 n2] w (Gives (.bool true) w) := by
  have hln := validM_len hv
  have HL : Hid (∀ W, Calls Try.prog 27 #[mv m A] W (Gives (.bool false) W)) := fun W => by
    have := l_long m A W (by unfold maxLen; omega) (by unfold maxLen; omega) (by unfold maxLen; omega) (by unfold maxLen; omega)
    rwa [longB_okV hv] at this
  have HBn : Hid (∀ W, Below w.heap.size w W → Calls Try.prog 28 #[mv m A] W (Gives (.bool true) W)) := fun W hb => by
    have := r_mob m A (long_len (longB_okV hv)) W (hm.below hb)
    rwa [hv] at this
  obtain ⟨day, hde⟩ : ∃ day, n2 % 101 = day := ⟨_, rfl⟩
  have hday : day ≤ 100 := by have := Nat.mod_lt n2 (show 0 < 101 by omega); omega
  have hr1 : (n2 : Int).tmod 101 = (day : Int) := by rw [← hde, Int.tmod_eq_emod_of_nonneg (by omega)]; rfl
  have HDW : Hid (∀ W, Below w.heap.size w W → Calls Try.prog 30 #[.slice ab bl.length bc] W (fun e w' => e = .returned (drF W.heap.size) ∧ DrAt w' W.heap.size bl ab bc 0 ∧ Below W.heap.size W w')) := fun W hb => l_draws bl ab bc W (hbr.below hb)
  have HTW : Hid (∀ w0 W n, Below w.heap.size w w0 → Below w0.heap.size w0 W → w0.heap.size ≤ n → DrAt W n bl ab bc 0 → Calls Try.prog 29 #[mv m A, drF n] W (TrulyP m A w0 W n)) := fun w0 W n h0 hb hn hd => l_truly w0 W (hm.below h0) hv hb hn hd hbl hbx
  have HHd : ∀ i, (h : i < m.herds.length) → m.herds[i].1 = (startN m i : Int) ∧ m.herds[i].2.2.2 = thirstI m i ∧ 0 ≤ thirstI m i ∧ thirstI m i ≤ 20 := fun i h => by
    have hst := start_le hv h
    have hgi : m.herds.getD i (0, 0, 0, 0) = m.herds[i] := by rw [List.getD_eq_getElem?_getD, List.getElem?_eq_getElem h]; rfl
    have e : m.herds[i].2.2.2 = thirstI m i := by unfold thirstI; rw [hgi]
    have h4 := (vparts hv).hd _ (List.getElem_mem h)
    refine ⟨by rw [← hst.2]; unfold startI; rw [Int.toNat_natCast, ← List.getD_eq_getElem?_getD, hgi], e, by omega, by omega⟩
  have HTC : Hid (∀ L D S xa xc la lc wx, L ∈ prodL m.legs → D ∈ prodL (leavesL m) → SOk m L D S → S.length = m.seen.length → Below w.heap.size w wx → RowsAt wx xa 4 i4c S → IntsM wx la L →
      ∃ (st : Nat → Nat) (ln : Nat → Int) (dy : Nat → Nat → Int) (nw : Nat → Nat) (sf th : Nat → Int) (tl : Nat → List (Int × Int)), TrueC (mv m A) (.agg #[.slice A.pa m.places.length A.pc, .slice A.la m.legs.length A.lc, .slice A.ha m.herds.length A.hc, .slice xa S.length xc]) wx m.places.length m.herds.length day (.slice la L.length lc) st ln dy nw sf th tl ∧
        (∀ i, (h : i < m.herds.length) → m.herds[i].1 = (st i : Int) ∧ m.herds[i].2.2.2 = th i ∧ 0 ≤ th i ∧ th i ≤ 20) ∧ D.length = m.herds.length ∧ ∀ i, (h : i < D.length) → D[i] = ln i ∧ 0 ≤ ln i ∧ ln i ≤ 30) := fun L D S xa xc la lc wx hL hD hS hl hb hr hrL => by
    refine ⟨_, _, _, _, _, _, _, true_c hv hL hD hS hl hday (hm.below hb) hr hrL, HHd, ?_⟩
    obtain ⟨h1, h2⟩ := (mem_prodL _ _).1 hD
    refine ⟨by rw [h1]; simp [leavesL], fun i hi => ?_⟩
    have hb := day_in hv (trOk_of hL hD) i
    exact ⟨by rw [List.getD_eq_getElem?_getD, List.getElem?_eq_getElem hi]; rfl, hb.1, hb.2⟩
  have HA := Lib.hid l_alive
  have HIn := Lib.hid l_insideV
  obtain ⟨i0, hi0, hz0, hz1, hz2⟩ := info_of Try.info3
  have HMR : Hid (∀ W, Below w.heap.size w W → MbAt W m A) := fun W h => hm.below h
  unfold TrulyP at HTW
  generalize leavesL m = lvs at *
  generalize SOk m = so at *
  clear hde hm hv hbr hbl hbx HHd
  rcases A with ⟨pa, pc, la, lc, ha, hc, sa, sc⟩
  rcases m with ⟨ps, ls, hs, ss⟩
  unfold mv mcells drF at *
  simp only at *
  have hp6 : (ps.length : Int) ≤ 6 ∧ 2 ≤ (ps.length : Int) := by omega
  have hl5 : (ls.length : Int) ≤ 5 := by omega
  have hh4 : (hs.length : Int) ≤ 4 := by omega
  have hs5 : (ss.length : Int) ≤ 5 := by omega
  go_enter Try.func5, Try.ntmps5
  go_wp2_with (first
    | (go_at_call 27; refine (HL.out _).mono ?_; rintro e w1 ⟨rfl, hb1⟩; refine at_stop ?_))
  unfold Stop
  have bb := (Blk.new w #[.slice pa ps.length pc, .slice la ls.length lc, .slice ha hs.length hc, .slice sa ss.length sc] 27).below hb1 (by first | omega | (simp; done) | (simp; omega))
  have hB := ((Below.refl w.heap.size w).alloc (Nat.le_refl _) _).trans (hb1.mono (by first | omega | (simp; done) | (simp; omega)))
  clear hb1
  have rb := bb.cell
  go_wp2_with (first
    | (go_at_call 28; refine (HBn.out _ hB).mono ?_; rintro e w2 ⟨rfl, hb2⟩; refine at_stop ?_))
  unfold Stop
  clear rb
  replace bb := bb.below hb2 bb.lt
  replace hB := hB.trans (hb2.mono hB.size)
  clear hb2 HL HBn
  go_upto_region 3 with fail
  have hlb := bb.lt
  have hBs := hB.size
  go_cut [7, 8, 9] from 48 to 55 (fun x7 x8 x9 wx => ∃ (p7 : Nat) (L D : List Int) (S : List (Int × Int × Int × Int)) (xa : Option Addr) (xc : Nat) (ra : Option Addr) (rc : Nat) (da : Option Addr) (dc : Nat), x7 = .pointer (some ⟨p7, 0, none⟩) ∧ x8 = .slice ra L.length rc ∧ x9 = .slice da D.length dc ∧ Blk wx p7 #[.slice pa ps.length pc, .slice la ls.length lc, .slice ha hs.length hc, .slice xa S.length xc] 27 ∧ w2.heap.size ≤ p7 ∧ Below w2.heap.size w2 wx ∧ L ∈ prodL ls ∧ D ∈ prodL lvs ∧ so L D S ∧ S.length = ss.length ∧ RowsAt wx xa 4 i4c S ∧ IntsM wx ra L ∧ IntsM wx da D)
  case first =>
    as_aux_lemma =>
      clear HTC HA HIn
      refine Ord.wp_regionTN 4 (.fork2 [(0, 1), (1, 1)] 2 (.fork2 [] 3 (.leaf [(4, 1), (5, 1), (6, 1), (7, 1), (8, 2), (9, 2), (10, 0), (11, 0)]) 8 (.leaf [(3, 2), (4, 0), (5, 0), (6, 1), (7, 1), (9, 2), (10, 0), (11, 0)])) 8 (.leaf [(2, 2), (3, 2), (4, 0), (5, 0), (6, 1), (7, 1), (9, 2), (10, 0), (11, 0)])) (fun W => Below w2.heap.size w2 W) (by kernel_rfl) (by kernel_rfl) (Below.refl _ _).drew ?_
      go_wp2_with (first
        | ((with_reducible refine Ord.at_wild ?_); refine Ord.wild_load (ad := ⟨w.heap.size, 0, none⟩) (.agg #[.slice pa ps.length pc, .slice la ls.length lc, .slice ha hs.length hc, .slice sa ss.length sc]) rfl rfl ?_ ?_; (focus (intro W hW; exact loadVar_blk agg_mob (bb.below hW hlb) rfl)); intro K hK)
        | (go_at_call 30; refine at_stop ?_)
        | (with_reducible refine Ord.at_nm ?_)
        | with_reducible refine Ord.top_two ?_ | with_reducible refine Ord.top_three ?_ | with_reducible refine Ord.at_two ?_ ?_ | with_reducible refine Ord.at_three ?_ ?_ ?_ | with_reducible refine Ord.tree_leaf ?_ | with_reducible refine Ord.tree_two ?_ | ((with_reducible refine Ord.at_calm ?_); refine Ord.calm_skip rfl ?_ (fun K hK => ?_); (focus (simp [Region.wanted, yielded]; done))) | with_reducible refine Ord.walk_calm rfl rfl (fun K hK => ?_) | ((with_reducible refine Ord.at_wild ?_); refine Ord.wild_fieldAddr rfl rfl (fun W => by simp [go_sem]; rfl) (fun K hK => ?_)) | ((with_reducible refine Ord.at_wild ?_); refine Ord.wild_move rfl rfl (fun K hK => ?_)) | ((with_reducible refine Ord.at_wild ?_); refine Ord.wild_nilCheck rfl rfl (fun K hK => ?_)) | with_reducible refine Ord.walk_eff rfl (by first | (simp; done) | assumption | (go_simp; done) | (repeat (first | assumption | exact Below.refl _ _ | refine Below.drew ?_ | refine Below.alloc ?_ (by first | omega | (simp; done) | (simp; omega)) _ | refine Below.setCell ?_ (by first | omega | (simp; done) | (simp; omega)) _ | refine Below.trans ?_ (Below.mono (by assumption) (by first | omega | (simp; done) | (simp; omega)))))) (fun K hK => ?_) | with_reducible refine Ord.at_fork ?_ ?_ | with_reducible refine Ord.walk_nil ?_ | (with_reducible refine Ord.next_of (by first | (simp; done) | (go_simp; done) | (repeat (first | assumption | exact Below.refl _ _ | refine Below.drew ?_ | refine Below.alloc ?_ (by first | omega | (simp; done) | (simp; omega)) _ | refine Below.setCell ?_ (by first | omega | (simp; done) | (simp; omega)) _ | refine Below.trans ?_ (Below.mono (by assumption) (by first | omega | (simp; done) | (simp; omega)))))) (fun _ => ?_)))
      all_goals unfold Stop
      · refine (HDW.out _ (hB.trans ((show Below w2.heap.size w2 _ from by (repeat (first | assumption | exact Below.refl _ _ | refine Below.drew ?_ | refine Below.alloc ?_ (by first | omega | (simp; done) | (simp; omega)) _ | refine Below.setCell ?_ (by first | omega | (simp; done) | (simp; omega)) _ | refine Below.trans ?_ (Below.mono (by assumption) (by first | omega | (simp; done) | (simp; omega)))))).mono hBs))).mono ?_
        rintro e wd ⟨rfl, hdr, hbd⟩
        have hBd : Below w2.heap.size w2 wd := Below.trans (by (repeat (first | assumption | exact Below.refl _ _ | refine Below.drew ?_ | refine Below.alloc ?_ (by first | omega | (simp; done) | (simp; omega)) _ | refine Below.setCell ?_ (by first | omega | (simp; done) | (simp; omega)) _ | refine Below.trans ?_ (Below.mono (by assumption) (by first | omega | (simp; done) | (simp; omega)))))) (hbd.mono (by first | omega | (simp; done) | (simp; omega)))
        have hSd := hBd.size
        (try simp only [World.size_alloc, World.size_drew] at hdr)
        have hld := hdr.lt
        (try simp only [World.size_alloc, World.size_drew] at hld)
        go_wp2_with (first
          | (go_at_call 29; refine at_stop ?_)
          | (with_reducible refine Ord.at_nm ?_)
          | with_reducible refine Ord.top_two ?_ | with_reducible refine Ord.top_three ?_ | with_reducible refine Ord.at_two ?_ ?_ | with_reducible refine Ord.at_three ?_ ?_ ?_ | with_reducible refine Ord.tree_leaf ?_ | with_reducible refine Ord.tree_two ?_ | ((with_reducible refine Ord.at_calm ?_); refine Ord.calm_skip rfl ?_ (fun K hK => ?_); (focus (simp [Region.wanted, yielded]; done))) | with_reducible refine Ord.walk_calm rfl rfl (fun K hK => ?_) | ((with_reducible refine Ord.at_wild ?_); refine Ord.wild_fieldAddr rfl rfl (fun W => by simp [go_sem]; rfl) (fun K hK => ?_)) | ((with_reducible refine Ord.at_wild ?_); refine Ord.wild_move rfl rfl (fun K hK => ?_)) | ((with_reducible refine Ord.at_wild ?_); refine Ord.wild_nilCheck rfl rfl (fun K hK => ?_)) | with_reducible refine Ord.walk_eff rfl (by first | (simp; done) | assumption | (go_simp; done) | (repeat (first | assumption | exact Below.refl _ _ | refine Below.drew ?_ | refine Below.alloc ?_ (by first | omega | (simp; done) | (simp; omega)) _ | refine Below.setCell ?_ (by first | omega | (simp; done) | (simp; omega)) _ | refine Below.trans ?_ (Below.mono (by assumption) (by first | omega | (simp; done) | (simp; omega)))))) (fun K hK => ?_) | with_reducible refine Ord.at_fork ?_ ?_ | with_reducible refine Ord.walk_nil ?_ | (with_reducible refine Ord.next_of (by first | (simp; done) | (go_simp; done) | (repeat (first | assumption | exact Below.refl _ _ | refine Below.drew ?_ | refine Below.alloc ?_ (by first | omega | (simp; done) | (simp; omega)) _ | refine Below.setCell ?_ (by first | omega | (simp; done) | (simp; omega)) _ | refine Below.trans ?_ (Below.mono (by assumption) (by first | omega | (simp; done) | (simp; omega)))))) (fun _ => ?_)))
        all_goals unfold Stop
        · refine (HTW.out w2 wd _ hB hBd (by simp) hdr).mono ?_
          rintro e wt ⟨L, D, S, ra, rc, da, dc, xa, xc, rfl, hL, hD, hS, hSl, hrS, hrL, hrD, hbT, hoT⟩
          have hST := hbT.size
          have HSl := Lib.hid hSl
          clear hSl
          go_wp2_with (first
            | (refine wpList_store_blk 27 (.tmp 7) (.tmp 53) agg_mob rfl rfl rfl rfl (Blk.new _ _ _) rfl rfl (by simp [Value.oneCell']) ?_; intro w9 h9; refine at_stop ?_)
            | ((with_reducible refine Ord.at_wild ?_); refine Ord.walk_wild_as rfl (.slice ra L.length rc) ?_ ?_; (focus (intro W hW; exact yields_ext (ix := 1) rfl rfl rfl)); intro K hK)
            | ((with_reducible refine Ord.at_wild ?_); refine Ord.walk_wild_as rfl (.slice da D.length dc) ?_ ?_; (focus (intro W hW; exact yields_ext (ix := 2) rfl rfl rfl)); intro K hK)
            | ((with_reducible refine Ord.at_wild ?_); refine Ord.walk_wild_as rfl (.agg #[.slice pa ps.length pc, .slice la ls.length lc, .slice ha hs.length hc, .slice xa S.length xc]) ?_ ?_; (focus (intro W hW; exact yields_ext (ix := 0) rfl rfl rfl)); intro K hK)
            | (with_reducible refine Ord.at_nm ?_)
            | with_reducible refine Ord.top_two ?_ | with_reducible refine Ord.top_three ?_ | with_reducible refine Ord.at_two ?_ ?_ | with_reducible refine Ord.at_three ?_ ?_ ?_ | with_reducible refine Ord.tree_leaf ?_ | with_reducible refine Ord.tree_two ?_ | ((with_reducible refine Ord.at_calm ?_); refine Ord.calm_skip rfl ?_ (fun K hK => ?_); (focus (simp [Region.wanted, yielded]; done))) | with_reducible refine Ord.walk_calm rfl rfl (fun K hK => ?_) | ((with_reducible refine Ord.at_wild ?_); refine Ord.wild_fieldAddr rfl rfl (fun W => by simp [go_sem]; rfl) (fun K hK => ?_)) | ((with_reducible refine Ord.at_wild ?_); refine Ord.wild_move rfl rfl (fun K hK => ?_)) | ((with_reducible refine Ord.at_wild ?_); refine Ord.wild_nilCheck rfl rfl (fun K hK => ?_)) | with_reducible refine Ord.walk_eff rfl (by first | (simp; done) | assumption | (go_simp; done) | (repeat (first | assumption | exact Below.refl _ _ | refine Below.drew ?_ | refine Below.alloc ?_ (by first | omega | (simp; done) | (simp; omega)) _ | refine Below.setCell ?_ (by first | omega | (simp; done) | (simp; omega)) _ | refine Below.trans ?_ (Below.mono (by assumption) (by first | omega | (simp; done) | (simp; omega)))))) (fun K hK => ?_) | with_reducible refine Ord.at_fork ?_ ?_ | with_reducible refine Ord.walk_nil ?_ | (with_reducible refine Ord.next_of (by first | (simp; done) | (go_simp; done) | (repeat (first | assumption | exact Below.refl _ _ | refine Below.drew ?_ | refine Below.alloc ?_ (by first | omega | (simp; done) | (simp; omega)) _ | refine Below.setCell ?_ (by first | omega | (simp; done) | (simp; omega)) _ | refine Below.trans ?_ (Below.mono (by assumption) (by first | omega | (simp; done) | (simp; omega)))))) (fun _ => ?_)))
          unfold Stop
          have b7 := h9.blk
          have hb9 : Below wt.heap.size wt w9 := h9.below ((Below.refl _ _).alloc (Nat.le_refl _) _) (Nat.le_refl _)
          have hrS9 := hrS.below hb9
          have hrL9 := RowsAt.below hrL hb9
          have hrD9 := RowsAt.below hrD hb9
          have hBF : Below w2.heap.size w2 w9 := h9.below (hbT.alloc hST _) (by first | omega | (simp; omega))
          have hSF := hBF.size
          go_wp2_with (first
            | (with_reducible refine Ord.at_nm ?_)
            | with_reducible refine Ord.top_two ?_ | with_reducible refine Ord.top_three ?_ | with_reducible refine Ord.at_two ?_ ?_ | with_reducible refine Ord.at_three ?_ ?_ ?_ | with_reducible refine Ord.tree_leaf ?_ | with_reducible refine Ord.tree_two ?_ | ((with_reducible refine Ord.at_calm ?_); refine Ord.calm_skip rfl ?_ (fun K hK => ?_); (focus (simp [Region.wanted, yielded]; done))) | with_reducible refine Ord.walk_calm rfl rfl (fun K hK => ?_) | ((with_reducible refine Ord.at_wild ?_); refine Ord.wild_fieldAddr rfl rfl (fun W => by simp [go_sem]; rfl) (fun K hK => ?_)) | ((with_reducible refine Ord.at_wild ?_); refine Ord.wild_move rfl rfl (fun K hK => ?_)) | ((with_reducible refine Ord.at_wild ?_); refine Ord.wild_nilCheck rfl rfl (fun K hK => ?_)) | with_reducible refine Ord.walk_eff rfl (by first | (simp; done) | assumption | (go_simp; done) | (repeat (first | assumption | exact Below.refl _ _ | refine Below.drew ?_ | refine Below.alloc ?_ (by first | omega | (simp; done) | (simp; omega)) _ | refine Below.setCell ?_ (by first | omega | (simp; done) | (simp; omega)) _ | refine Below.trans ?_ (Below.mono (by assumption) (by first | omega | (simp; done) | (simp; omega)))))) (fun K hK => ?_) | with_reducible refine Ord.at_fork ?_ ?_ | with_reducible refine Ord.walk_nil ?_ | (with_reducible refine Ord.next_of (by first | (simp; done) | (go_simp; done) | (repeat (first | assumption | exact Below.refl _ _ | refine Below.drew ?_ | refine Below.alloc ?_ (by first | omega | (simp; done) | (simp; omega)) _ | refine Below.setCell ?_ (by first | omega | (simp; done) | (simp; omega)) _ | refine Below.trans ?_ (Below.mono (by assumption) (by first | omega | (simp; done) | (simp; omega)))))) (fun _ => ?_)))
          go_meet
          exact ⟨_, L, D, S, xa, xc, ra, rc, da, dc, rfl, rfl, rfl, b7, by first | omega | (simp; omega), hBF, hL, hD, hS, HSl.out, hrS9, hrL9, hrD9⟩
        · refine (HTW.out w2 (wd.alloc _) _ hB (hBd.alloc hSd _) (by simp) (hdr.below ((Below.refl _ _).alloc (by first | omega | (simp; omega)) _))).mono ?_
          rintro e wt ⟨L, D, S, ra, rc, da, dc, xa, xc, rfl, hL, hD, hS, hSl, hrS, hrL, hrD, hbT, hoT⟩
          have hST := hbT.size
          have HSl := Lib.hid hSl
          clear hSl
          have b7t : Blk wt wd.heap.size #[.slice none 0 0, .slice none 0 0, .slice none 0 0, .slice none 0 0] 27 := hoT.blk (Blk.new wd _ _) (by simp) (by simp; omega)
          go_wp2_with (first
            | (refine wpList_store_blk 27 (.tmp 7) (.tmp 53) agg_mob rfl rfl rfl rfl b7t rfl rfl (by simp [Value.oneCell']) ?_; intro w9 h9; refine at_stop ?_)
            | ((with_reducible refine Ord.at_wild ?_); refine Ord.walk_wild_as rfl (.slice ra L.length rc) ?_ ?_; (focus (intro W hW; exact yields_ext (ix := 1) rfl rfl rfl)); intro K hK)
            | ((with_reducible refine Ord.at_wild ?_); refine Ord.walk_wild_as rfl (.slice da D.length dc) ?_ ?_; (focus (intro W hW; exact yields_ext (ix := 2) rfl rfl rfl)); intro K hK)
            | ((with_reducible refine Ord.at_wild ?_); refine Ord.walk_wild_as rfl (.agg #[.slice pa ps.length pc, .slice la ls.length lc, .slice ha hs.length hc, .slice xa S.length xc]) ?_ ?_; (focus (intro W hW; exact yields_ext (ix := 0) rfl rfl rfl)); intro K hK)
            | (with_reducible refine Ord.at_nm ?_)
            | with_reducible refine Ord.top_two ?_ | with_reducible refine Ord.top_three ?_ | with_reducible refine Ord.at_two ?_ ?_ | with_reducible refine Ord.at_three ?_ ?_ ?_ | with_reducible refine Ord.tree_leaf ?_ | with_reducible refine Ord.tree_two ?_ | ((with_reducible refine Ord.at_calm ?_); refine Ord.calm_skip rfl ?_ (fun K hK => ?_); (focus (simp [Region.wanted, yielded]; done))) | with_reducible refine Ord.walk_calm rfl rfl (fun K hK => ?_) | ((with_reducible refine Ord.at_wild ?_); refine Ord.wild_fieldAddr rfl rfl (fun W => by simp [go_sem]; rfl) (fun K hK => ?_)) | ((with_reducible refine Ord.at_wild ?_); refine Ord.wild_move rfl rfl (fun K hK => ?_)) | ((with_reducible refine Ord.at_wild ?_); refine Ord.wild_nilCheck rfl rfl (fun K hK => ?_)) | with_reducible refine Ord.walk_eff rfl (by first | (simp; done) | assumption | (go_simp; done) | (repeat (first | assumption | exact Below.refl _ _ | refine Below.drew ?_ | refine Below.alloc ?_ (by first | omega | (simp; done) | (simp; omega)) _ | refine Below.setCell ?_ (by first | omega | (simp; done) | (simp; omega)) _ | refine Below.trans ?_ (Below.mono (by assumption) (by first | omega | (simp; done) | (simp; omega)))))) (fun K hK => ?_) | with_reducible refine Ord.at_fork ?_ ?_ | with_reducible refine Ord.walk_nil ?_ | (with_reducible refine Ord.next_of (by first | (simp; done) | (go_simp; done) | (repeat (first | assumption | exact Below.refl _ _ | refine Below.drew ?_ | refine Below.alloc ?_ (by first | omega | (simp; done) | (simp; omega)) _ | refine Below.setCell ?_ (by first | omega | (simp; done) | (simp; omega)) _ | refine Below.trans ?_ (Below.mono (by assumption) (by first | omega | (simp; done) | (simp; omega)))))) (fun _ => ?_)))
          unfold Stop
          have b7 := h9.blk
          have hrS9 := hrS.rowed b7t h9 (by simp [isSl]) (by intro a u hu; simp [i4c] at hu; rcases hu with rfl | rfl | rfl | rfl <;> rfl)
          have hrL9 := RowsAt.rowed hrL b7t h9 (by simp [isSl]) (by intro a u hu; simp [itc] at hu; subst hu; rfl)
          have hrD9 := RowsAt.rowed hrD b7t h9 (by simp [isSl]) (by intro a u hu; simp [itc] at hu; subst hu; rfl)
          have hBF : Below w2.heap.size w2 w9 := h9.below hbT (by first | omega | (simp; omega))
          have hSF := hBF.size
          go_wp2_with (first
            | (with_reducible refine Ord.at_nm ?_)
            | with_reducible refine Ord.top_two ?_ | with_reducible refine Ord.top_three ?_ | with_reducible refine Ord.at_two ?_ ?_ | with_reducible refine Ord.at_three ?_ ?_ ?_ | with_reducible refine Ord.tree_leaf ?_ | with_reducible refine Ord.tree_two ?_ | ((with_reducible refine Ord.at_calm ?_); refine Ord.calm_skip rfl ?_ (fun K hK => ?_); (focus (simp [Region.wanted, yielded]; done))) | with_reducible refine Ord.walk_calm rfl rfl (fun K hK => ?_) | ((with_reducible refine Ord.at_wild ?_); refine Ord.wild_fieldAddr rfl rfl (fun W => by simp [go_sem]; rfl) (fun K hK => ?_)) | ((with_reducible refine Ord.at_wild ?_); refine Ord.wild_move rfl rfl (fun K hK => ?_)) | ((with_reducible refine Ord.at_wild ?_); refine Ord.wild_nilCheck rfl rfl (fun K hK => ?_)) | with_reducible refine Ord.walk_eff rfl (by first | (simp; done) | assumption | (go_simp; done) | (repeat (first | assumption | exact Below.refl _ _ | refine Below.drew ?_ | refine Below.alloc ?_ (by first | omega | (simp; done) | (simp; omega)) _ | refine Below.setCell ?_ (by first | omega | (simp; done) | (simp; omega)) _ | refine Below.trans ?_ (Below.mono (by assumption) (by first | omega | (simp; done) | (simp; omega)))))) (fun K hK => ?_) | with_reducible refine Ord.at_fork ?_ ?_ | with_reducible refine Ord.walk_nil ?_ | (with_reducible refine Ord.next_of (by first | (simp; done) | (go_simp; done) | (repeat (first | assumption | exact Below.refl _ _ | refine Below.drew ?_ | refine Below.alloc ?_ (by first | omega | (simp; done) | (simp; omega)) _ | refine Below.setCell ?_ (by first | omega | (simp; done) | (simp; omega)) _ | refine Below.trans ?_ (Below.mono (by assumption) (by first | omega | (simp; done) | (simp; omega)))))) (fun _ => ?_)))
          go_meet
          exact ⟨_, L, D, S, xa, xc, ra, rc, da, dc, rfl, rfl, rfl, b7, by first | omega | (simp; omega), hBF, hL, hD, hS, HSl.out, hrS9, hrL9, hrD9⟩
      · refine (HDW.out _ (hB.trans ((show Below w2.heap.size w2 _ from by (repeat (first | assumption | exact Below.refl _ _ | refine Below.drew ?_ | refine Below.alloc ?_ (by first | omega | (simp; done) | (simp; omega)) _ | refine Below.setCell ?_ (by first | omega | (simp; done) | (simp; omega)) _ | refine Below.trans ?_ (Below.mono (by assumption) (by first | omega | (simp; done) | (simp; omega)))))).mono hBs))).mono ?_
        rintro e wd ⟨rfl, hdr, hbd⟩
        have hBd : Below w2.heap.size w2 wd := Below.trans (by (repeat (first | assumption | exact Below.refl _ _ | refine Below.drew ?_ | refine Below.alloc ?_ (by first | omega | (simp; done) | (simp; omega)) _ | refine Below.setCell ?_ (by first | omega | (simp; done) | (simp; omega)) _ | refine Below.trans ?_ (Below.mono (by assumption) (by first | omega | (simp; done) | (simp; omega)))))) (hbd.mono (by first | omega | (simp; done) | (simp; omega)))
        have hSd := hBd.size
        (try simp only [World.size_alloc, World.size_drew] at hdr)
        have hld := hdr.lt
        (try simp only [World.size_alloc, World.size_drew] at hld)
        go_wp2_with (first
          | (go_at_call 29; refine at_stop ?_)
          | (with_reducible refine Ord.at_nm ?_)
          | with_reducible refine Ord.top_two ?_ | with_reducible refine Ord.top_three ?_ | with_reducible refine Ord.at_two ?_ ?_ | with_reducible refine Ord.at_three ?_ ?_ ?_ | with_reducible refine Ord.tree_leaf ?_ | with_reducible refine Ord.tree_two ?_ | ((with_reducible refine Ord.at_calm ?_); refine Ord.calm_skip rfl ?_ (fun K hK => ?_); (focus (simp [Region.wanted, yielded]; done))) | with_reducible refine Ord.walk_calm rfl rfl (fun K hK => ?_) | ((with_reducible refine Ord.at_wild ?_); refine Ord.wild_fieldAddr rfl rfl (fun W => by simp [go_sem]; rfl) (fun K hK => ?_)) | ((with_reducible refine Ord.at_wild ?_); refine Ord.wild_move rfl rfl (fun K hK => ?_)) | ((with_reducible refine Ord.at_wild ?_); refine Ord.wild_nilCheck rfl rfl (fun K hK => ?_)) | with_reducible refine Ord.walk_eff rfl (by first | (simp; done) | assumption | (go_simp; done) | (repeat (first | assumption | exact Below.refl _ _ | refine Below.drew ?_ | refine Below.alloc ?_ (by first | omega | (simp; done) | (simp; omega)) _ | refine Below.setCell ?_ (by first | omega | (simp; done) | (simp; omega)) _ | refine Below.trans ?_ (Below.mono (by assumption) (by first | omega | (simp; done) | (simp; omega)))))) (fun K hK => ?_) | with_reducible refine Ord.at_fork ?_ ?_ | with_reducible refine Ord.walk_nil ?_ | (with_reducible refine Ord.next_of (by first | (simp; done) | (go_simp; done) | (repeat (first | assumption | exact Below.refl _ _ | refine Below.drew ?_ | refine Below.alloc ?_ (by first | omega | (simp; done) | (simp; omega)) _ | refine Below.setCell ?_ (by first | omega | (simp; done) | (simp; omega)) _ | refine Below.trans ?_ (Below.mono (by assumption) (by first | omega | (simp; done) | (simp; omega)))))) (fun _ => ?_)))
        all_goals unfold Stop
        refine (HTW.out w2 wd _ hB hBd (by simp) hdr).mono ?_
        rintro e wt ⟨L, D, S, ra, rc, da, dc, xa, xc, rfl, hL, hD, hS, hSl, hrS, hrL, hrD, hbT, hoT⟩
        have hST := hbT.size
        have HSl := Lib.hid hSl
        clear hSl
        have b7d : Blk wd w2.heap.size #[.slice none 0 0, .slice none 0 0, .slice none 0 0, .slice none 0 0] 27 := (Blk.new w2 _ _).drew.below hbd (by simp)
        have b7t : Blk wt w2.heap.size #[.slice none 0 0, .slice none 0 0, .slice none 0 0, .slice none 0 0] 27 := hoT.blk b7d b7d.lt (by simp; omega)
        go_wp2_with (first
          | (refine wpList_store_blk 27 (.tmp 7) (.tmp 53) agg_mob rfl rfl rfl rfl b7t rfl rfl (by simp [Value.oneCell']) ?_; intro w9 h9; refine at_stop ?_)
          | ((with_reducible refine Ord.at_wild ?_); refine Ord.walk_wild_as rfl (.slice ra L.length rc) ?_ ?_; (focus (intro W hW; exact yields_ext (ix := 1) rfl rfl rfl)); intro K hK)
          | ((with_reducible refine Ord.at_wild ?_); refine Ord.walk_wild_as rfl (.slice da D.length dc) ?_ ?_; (focus (intro W hW; exact yields_ext (ix := 2) rfl rfl rfl)); intro K hK)
          | ((with_reducible refine Ord.at_wild ?_); refine Ord.walk_wild_as rfl (.agg #[.slice pa ps.length pc, .slice la ls.length lc, .slice ha hs.length hc, .slice xa S.length xc]) ?_ ?_; (focus (intro W hW; exact yields_ext (ix := 0) rfl rfl rfl)); intro K hK)
          | (with_reducible refine Ord.at_nm ?_)
          | with_reducible refine Ord.top_two ?_ | with_reducible refine Ord.top_three ?_ | with_reducible refine Ord.at_two ?_ ?_ | with_reducible refine Ord.at_three ?_ ?_ ?_ | with_reducible refine Ord.tree_leaf ?_ | with_reducible refine Ord.tree_two ?_ | ((with_reducible refine Ord.at_calm ?_); refine Ord.calm_skip rfl ?_ (fun K hK => ?_); (focus (simp [Region.wanted, yielded]; done))) | with_reducible refine Ord.walk_calm rfl rfl (fun K hK => ?_) | ((with_reducible refine Ord.at_wild ?_); refine Ord.wild_fieldAddr rfl rfl (fun W => by simp [go_sem]; rfl) (fun K hK => ?_)) | ((with_reducible refine Ord.at_wild ?_); refine Ord.wild_move rfl rfl (fun K hK => ?_)) | ((with_reducible refine Ord.at_wild ?_); refine Ord.wild_nilCheck rfl rfl (fun K hK => ?_)) | with_reducible refine Ord.walk_eff rfl (by first | (simp; done) | assumption | (go_simp; done) | (repeat (first | assumption | exact Below.refl _ _ | refine Below.drew ?_ | refine Below.alloc ?_ (by first | omega | (simp; done) | (simp; omega)) _ | refine Below.setCell ?_ (by first | omega | (simp; done) | (simp; omega)) _ | refine Below.trans ?_ (Below.mono (by assumption) (by first | omega | (simp; done) | (simp; omega)))))) (fun K hK => ?_) | with_reducible refine Ord.at_fork ?_ ?_ | with_reducible refine Ord.walk_nil ?_ | (with_reducible refine Ord.next_of (by first | (simp; done) | (go_simp; done) | (repeat (first | assumption | exact Below.refl _ _ | refine Below.drew ?_ | refine Below.alloc ?_ (by first | omega | (simp; done) | (simp; omega)) _ | refine Below.setCell ?_ (by first | omega | (simp; done) | (simp; omega)) _ | refine Below.trans ?_ (Below.mono (by assumption) (by first | omega | (simp; done) | (simp; omega)))))) (fun _ => ?_)))
        unfold Stop
        have b7 := h9.blk
        have hrS9 := hrS.rowed b7t h9 (by simp [isSl]) (by intro a u hu; simp [i4c] at hu; rcases hu with rfl | rfl | rfl | rfl <;> rfl)
        have hrL9 := RowsAt.rowed hrL b7t h9 (by simp [isSl]) (by intro a u hu; simp [itc] at hu; subst hu; rfl)
        have hrD9 := RowsAt.rowed hrD b7t h9 (by simp [isSl]) (by intro a u hu; simp [itc] at hu; subst hu; rfl)
        have hBF : Below w2.heap.size w2 w9 := h9.below hbT (by first | omega | (simp; omega))
        have hSF := hBF.size
        go_wp2_with (first
          | (with_reducible refine Ord.at_nm ?_)
          | with_reducible refine Ord.top_two ?_ | with_reducible refine Ord.top_three ?_ | with_reducible refine Ord.at_two ?_ ?_ | with_reducible refine Ord.at_three ?_ ?_ ?_ | with_reducible refine Ord.tree_leaf ?_ | with_reducible refine Ord.tree_two ?_ | ((with_reducible refine Ord.at_calm ?_); refine Ord.calm_skip rfl ?_ (fun K hK => ?_); (focus (simp [Region.wanted, yielded]; done))) | with_reducible refine Ord.walk_calm rfl rfl (fun K hK => ?_) | ((with_reducible refine Ord.at_wild ?_); refine Ord.wild_fieldAddr rfl rfl (fun W => by simp [go_sem]; rfl) (fun K hK => ?_)) | ((with_reducible refine Ord.at_wild ?_); refine Ord.wild_move rfl rfl (fun K hK => ?_)) | ((with_reducible refine Ord.at_wild ?_); refine Ord.wild_nilCheck rfl rfl (fun K hK => ?_)) | with_reducible refine Ord.walk_eff rfl (by first | (simp; done) | assumption | (go_simp; done) | (repeat (first | assumption | exact Below.refl _ _ | refine Below.drew ?_ | refine Below.alloc ?_ (by first | omega | (simp; done) | (simp; omega)) _ | refine Below.setCell ?_ (by first | omega | (simp; done) | (simp; omega)) _ | refine Below.trans ?_ (Below.mono (by assumption) (by first | omega | (simp; done) | (simp; omega)))))) (fun K hK => ?_) | with_reducible refine Ord.at_fork ?_ ?_ | with_reducible refine Ord.walk_nil ?_ | (with_reducible refine Ord.next_of (by first | (simp; done) | (go_simp; done) | (repeat (first | assumption | exact Below.refl _ _ | refine Below.drew ?_ | refine Below.alloc ?_ (by first | omega | (simp; done) | (simp; omega)) _ | refine Below.setCell ?_ (by first | omega | (simp; done) | (simp; omega)) _ | refine Below.trans ?_ (Below.mono (by assumption) (by first | omega | (simp; done) | (simp; omega)))))) (fun _ => ?_)))
        go_meet
        exact ⟨_, L, D, S, xa, xc, ra, rc, da, dc, rfl, rfl, rfl, b7, by first | omega | (simp; omega), hBF, hL, hD, hS, HSl.out, hrS9, hrL9, hrD9⟩
  case rest =>
    clear HDW HTW
    obtain ⟨p7, L, D, S, xa, xc, ra, rc, da, dc, rfl, rfl, rfl, b7, hp7, hbx, hL, hD, hS, hSl, hrS, hrL, hrD⟩ := hcut
    have hBx := hB.trans (hbx.mono hBs)
    obtain ⟨st, ln, dy, nw, sf, th, tl, T, hhd, hDl, hDg⟩ := HTC.out L D S xa xc ra rc wc hL hD hS hSl hBx hrS hrL
    replace bb := bb.below hbx hlb
    clear HTC hL hD hS hSl hrS hrL hbx hB hBs
    (try simp only at T hhd hDl hDg)
    obtain ⟨cc, hcl⟩ := T.clash
    obtain ⟨su, pe, hsu, hpe, hsp, hsh, hth⟩ := T.there
    have hAN := andNot_none hsu hpe hsp
    have HCl := Lib.hid hcl
    have HTh := Lib.hid hth
    have HSh := Lib.hid hsh
    have HT := Lib.hid T
    have HHd := Lib.hid hhd
    have HDl := Lib.hid hDl
    have HDg := Lib.hid hDg
    have hzw := bb.lt
    clear hcl hth hsh T hhd hDl hDg hsp
    have rb := bb.cell
    go_upto_region 4 with fail
    refine Ord.wp_regionN [(0, 0), (1, 0), (2, 0), (3, 0), (4, 0), (5, 0), (6, 0), (7, 0), (8, 0)] (fun _ => True) (by kernel_rfl) (by kernel_rfl) trivial ?_
    go_wp2_with (first
      | (refine wpList_load_blk 27 (.tmp 7) agg_mob rfl rfl rfl b7.drew rfl ?_)
      | (go_at_call 17; refine (HCl.out _ (Below.refl _ _).drew).mono ?_; rintro e w3 ⟨rfl, hb3⟩; refine at_stop ?_)
      | (with_reducible refine Ord.at_nm ?_)
      | ((with_reducible refine Ord.at_calm ?_); refine Ord.calm_skip rfl ?_ (fun K hK => ?_); (focus (simp [Region.wanted, yielded]; done))) | with_reducible refine Ord.walk_calm rfl rfl (fun K hK => ?_) | ((with_reducible refine Ord.at_wild ?_); refine Ord.wild_fieldAddr rfl rfl (fun W => by simp [go_sem]; rfl) (fun K hK => ?_)) | ((with_reducible refine Ord.at_wild ?_); refine Ord.wild_move rfl rfl (fun K hK => ?_)) | ((with_reducible refine Ord.at_wild ?_); refine Ord.wild_nilCheck rfl rfl (fun K hK => ?_)) | with_reducible refine Ord.walk_eff rfl (by first | (simp; done) | assumption | (go_simp; done) | (repeat (first | assumption | exact Below.refl _ _ | refine Below.drew ?_ | refine Below.alloc ?_ (by first | omega | (simp; done) | (simp; omega)) _ | refine Below.setCell ?_ (by first | omega | (simp; done) | (simp; omega)) _ | refine Below.trans ?_ (Below.mono (by assumption) (by first | omega | (simp; done) | (simp; omega)))))) (fun K hK => ?_) | with_reducible refine Ord.at_fork ?_ ?_ | with_reducible refine Ord.walk_nil ?_ | (with_reducible refine Ord.next_of (by first | (simp; done) | (go_simp; done) | (repeat (first | assumption | exact Below.refl _ _ | refine Below.drew ?_ | refine Below.alloc ?_ (by first | omega | (simp; done) | (simp; omega)) _ | refine Below.setCell ?_ (by first | omega | (simp; done) | (simp; omega)) _ | refine Below.trans ?_ (Below.mono (by assumption) (by first | omega | (simp; done) | (simp; omega)))))) (fun _ => ?_)))
    unfold Stop
    have hX : Below wc.heap.size wc w3 := (Below.refl _ _).drew.trans hb3
    replace bb := bb.below hX bb.lt
    replace b7 := b7.below hX b7.lt
    clear hb3 HCl rb
    go_wp2_with (first
      | (refine wpList_load_blk 27 (.tmp 7) agg_mob rfl rfl rfl b7 rfl ?_)
      | (go_at_call 15; refine (HTh.out _ hX).mono ?_; rintro e w4 ⟨rfl, hb5⟩; replace bb := bb.below hb5 bb.lt; replace b7 := b7.below hb5 b7.lt; replace hX := hX.trans (hb5.mono hX.size); clear hb5; refine at_stop ?_))
    unfold Stop
    clear HTh
    have rb := bb.cell
    go_wp2_with fail
    obtain ⟨zb, hzb'⟩ : ∃ z, w4.heap.size = z := ⟨_, rfl⟩
    have hzb : w4.heap.size ≤ zb ∧ zb ≤ w4.heap.size := by omega
    clear hzb'
    have hXs := hX.size
    have hBxs := hBx.size
    go_loopw [17, 90] (fun x17 x90 wr => ∃ k : Nat, k ≤ hs.length ∧ x90 = .int .i64 (k : Int) ∧ Below zb w4 wr ∧ wr.ownsRow zb 3 1 x17 ((List.range k).map fun i => dy i (ps.length - 1)).length (((List.range k).map fun i => dy i (ps.length - 1)).flatMap itc)) (fun _ x90 _ => hs.length - (intOf x90).toNat)
    case atStart => exact ⟨0, by omega, rfl, Below.refl _ _, by simpa using World.ownsRow_nil _ _ _ _⟩
    case round =>
      as_aux_lemma =>
        clear rb
        obtain ⟨k, hk, rfl, hBr, own⟩ := hrel
        have hsr := hBr.size
        have bbr := bb.below hBr (by have := bb.lt; omega)
        have b7r := b7.below hBr (by have := b7.lt; omega)
        have hXr : Below wc.heap.size wc wr := hX.trans (hBr.mono (by omega))
        have hBxr : Below w.heap.size w wr := hBx.trans (hXr.mono (by omega))
        by_cases hlt : k < hs.length
        · have hlti : (k : Int) < (hs.length : Int) := Int.ofNat_lt.2 hlt
          obtain ⟨gh, goh, rfl, c1, c2, c3, c4⟩ := (HMR.out _ hBxr).herds.get4 hlt
          obtain ⟨e1, e2, th0, th20⟩ := HHd.out k hlt
          simp only at c1 c2 c3 c4
          rw [e1] at c1
          rw [e2] at c4
          obtain ⟨hkt, hok, htl6, hst2, hnp6, hmem, hget⟩ := HT.out.trip k hlt
          have HKT := Lib.hid hkt
          have HMem := Lib.hid hmem
          have HGet := Lib.hid hget
          have hDk : k < D.length := by rw [HDl.out]; exact hlt
          obtain ⟨gd, god, rfl, _⟩ := RowsAt.get1 hrD hDk
          obtain ⟨eD, ln0, ln30⟩ := HDg.out k hDk
          have hDki : (k : Int) < (D.length : Int) := Int.ofNat_lt.2 hDk
          clear hkt hmem hget e1 e2
          generalize hs[k].2.1 = d2 at *
          generalize hs[k].2.2.1 = d3 at *
          go_wp2_with (first
            | (refine wpList_store_blk 56 (.tmp 19) (.tmp 94) agg_herdA rfl rfl rfl rfl (Blk.new _ _ _) rfl rfl (by simp [Value.oneCell']) ?_; intro w10 h; refine at_stop ?_))
          unfold Stop
          replace hBr : Below zb w4 w10 := h.below (hBr.alloc (by omega) _) (by omega)
          have b19 := h.blk
          replace bbr := h.other (bbr.alloc _) (by have := bbr.lt; (try simp only [World.size_drew]); omega)
          replace b7r := h.other (b7r.alloc _) (by have := b7r.lt; (try simp only [World.size_drew]); omega)
          replace own := ownsRow_below own (h.below ((Below.refl _ _).alloc (Nat.le_refl _) _) (Nat.le_refl _))
          replace hXr := h.below (hXr.alloc hXr.size _) hXr.size
          generalize hp19 : wr.heap.size = p19 at *
          clear h
          have hp19 : wr.heap.size ≤ p19 := by omega
          clear c1 c2 c3 c4
          obtain ⟨_, _, e', ed⟩ := RowsAt.get1 (RowsAt.below hrD hXr) hDk
          cases e'
          rw [eD] at ed
          have r19 := b19.cell
          go_wp2_with fail
          refine Ord.wp_regionN [(0, 0), (1, 0), (2, 0), (3, 0), (4, 0), (5, 0), (6, 0), (7, 2), (8, 0), (9, 0), (10, 0), (11, 0), (12, 0)] (fun _ => True) (by kernel_rfl) (by kernel_rfl) trivial ?_
          go_wp2_with (first
            | (refine wpList_load_blk 27 (.tmp 3) agg_mob rfl rfl rfl bbr.drew rfl ?_)
            | (go_at_call 31; refine (HKT.out _ hXr.drew).mono ?_; rintro e w11 ⟨mp, rfl, hmp, hmpl, hb⟩; refine at_stop ?_)
            | (with_reducible refine Ord.at_nm ?_)
            | ((with_reducible refine Ord.at_calm ?_); refine Ord.calm_skip rfl ?_ (fun K hK => ?_); (focus (simp [Region.wanted, yielded]; done))) | with_reducible refine Ord.walk_calm rfl rfl (fun K hK => ?_) | ((with_reducible refine Ord.at_wild ?_); refine Ord.wild_fieldAddr rfl rfl (fun W => by simp [go_sem]; rfl) (fun K hK => ?_)) | ((with_reducible refine Ord.at_wild ?_); refine Ord.wild_move rfl rfl (fun K hK => ?_)) | ((with_reducible refine Ord.at_wild ?_); refine Ord.wild_nilCheck rfl rfl (fun K hK => ?_)) | with_reducible refine Ord.walk_eff rfl (by first | (simp; done) | assumption | (go_simp; done) | (repeat (first | assumption | exact Below.refl _ _ | refine Below.drew ?_ | refine Below.alloc ?_ (by first | omega | (simp; done) | (simp; omega)) _ | refine Below.setCell ?_ (by first | omega | (simp; done) | (simp; omega)) _ | refine Below.trans ?_ (Below.mono (by assumption) (by first | omega | (simp; done) | (simp; omega)))))) (fun K hK => ?_) | with_reducible refine Ord.at_fork ?_ ?_ | with_reducible refine Ord.walk_nil ?_ | (with_reducible refine Ord.next_of (by first | (simp; done) | (go_simp; done) | (repeat (first | assumption | exact Below.refl _ _ | refine Below.drew ?_ | refine Below.alloc ?_ (by first | omega | (simp; done) | (simp; omega)) _ | refine Below.setCell ?_ (by first | omega | (simp; done) | (simp; omega)) _ | refine Below.trans ?_ (Below.mono (by assumption) (by first | omega | (simp; done) | (simp; omega)))))) (fun _ => ?_)))
          unfold Stop
          have hb11 : Below w10.heap.size w10 w11 := (Below.refl _ _).drew.trans hb
          replace hmpl : w10.heap.size ≤ mp := hmpl
          have hs10 := b19.lt
          replace bbr := bbr.below hb11 bbr.lt
          replace b7r := b7r.below hb11 b7r.lt
          replace b19 := b19.below hb11 b19.lt
          replace own := ownsRow_below own hb11
          have hq1 := bbr.lt
          have hq2 := b7r.lt
          have hq3 := b19.lt
          replace hXr := hXr.trans (hb11.mono hXr.size)
          replace hBr := hBr.trans (hb11.mono (by have := hBr.size; omega))
          have hgr := fun g e => (own.lt g e).2
          have hs11 := hb11.size
          have r19 := b19.cell
          clear hb hb11 HKT ed
          go_wp2_with (first
            | (refine wpList_range_int (.tmp 108) rfl rfl rfl hmp ?_; intro w12 hw12 hit hmp12; have hb12 : Below w11.heap.size w11 w12 := (by rw [hw12]; exact (Below.refl _ _).alloc (Nat.le_refl _) _); have hs12 : w11.heap.size + 1 ≤ w12.heap.size ∧ w12.heap.size ≤ w11.heap.size + 1 := (by rw [hw12]; simp); clear hw12; refine at_stop ?_)
            | (with_reducible refine Ord.at_nm ?_)
            | ((with_reducible refine Ord.at_calm ?_); refine Ord.calm_skip rfl ?_ (fun K hK => ?_); (focus (simp [Region.wanted, yielded]; done))) | with_reducible refine Ord.walk_calm rfl rfl (fun K hK => ?_) | ((with_reducible refine Ord.at_wild ?_); refine Ord.wild_fieldAddr rfl rfl (fun W => by simp [go_sem]; rfl) (fun K hK => ?_)) | ((with_reducible refine Ord.at_wild ?_); refine Ord.wild_move rfl rfl (fun K hK => ?_)) | ((with_reducible refine Ord.at_wild ?_); refine Ord.wild_nilCheck rfl rfl (fun K hK => ?_)) | with_reducible refine Ord.walk_eff rfl (by first | (simp; done) | assumption | (go_simp; done) | (repeat (first | assumption | exact Below.refl _ _ | refine Below.drew ?_ | refine Below.alloc ?_ (by first | omega | (simp; done) | (simp; omega)) _ | refine Below.setCell ?_ (by first | omega | (simp; done) | (simp; omega)) _ | refine Below.trans ?_ (Below.mono (by assumption) (by first | omega | (simp; done) | (simp; omega)))))) (fun K hK => ?_) | with_reducible refine Ord.at_fork ?_ ?_ | with_reducible refine Ord.walk_nil ?_ | (with_reducible refine Ord.next_of (by first | (simp; done) | (go_simp; done) | (repeat (first | assumption | exact Below.refl _ _ | refine Below.drew ?_ | refine Below.alloc ?_ (by first | omega | (simp; done) | (simp; omega)) _ | refine Below.setCell ?_ (by first | omega | (simp; done) | (simp; omega)) _ | refine Below.trans ?_ (Below.mono (by assumption) (by first | omega | (simp; done) | (simp; omega)))))) (fun _ => ?_)))
          unfold Stop
          obtain ⟨r0, hr0⟩ : ∃ r, w11.heap.size = r := ⟨_, rfl⟩
          have hmpr : mp < r0 := by rw [← hr0]; exact hmp.lt
          rw [hr0] at hit hs12 hs11 hq1 hq2 hq3 hgr
          have hrz : zb ≤ r0 := by have := hBr.size; omega
          try simp only [hr0]
          replace bbr := bbr.below hb12 bbr.lt
          replace b7r := b7r.below hb12 b7r.lt
          replace b19 := b19.below hb12 b19.lt
          replace own := ownsRow_below own hb12
          replace hXr := hXr.trans (hb12.mono hXr.size)
          replace hBr := hBr.trans (hb12.mono (by have := hBr.size; omega))
          clear hb12 hr0 hmp r19
          obtain ⟨zc, hzc'⟩ : ∃ z, w12.heap.size = z := ⟨_, rfl⟩
          have hzc : w12.heap.size ≤ zc ∧ zc ≤ w12.heap.size := by omega
          clear hzc'
          obtain ⟨hn1, hn2, hn3, hn4⟩ := HT.out.nw0 k hlt
          have HN3 := Lib.hid hn3
          have HN4 := Lib.hid hn4
          clear hn3 hn4
          go_wp2_with fail
          generalize wr = wq at *
          clear wr
          go_loopw [22] (fun x22 wr => ∃ (seen : List Nat) (pl : Nat), seen.Nodup ∧ (∀ i ∈ seen, i < (tl k).length) ∧ IterI wr r0 mp (tl k).length seen ∧ x22 = .int .i64 (pl : Int) ∧ st k ≤ pl ∧ pl ≤ nw k ∧ Hid (∀ j ∈ seen, ∀ p : Nat, (tl k)[j]? = some ((p : Int), dy k p) → dy k p ≤ day → p ≤ pl) ∧ Off [r0] zc w12 wr) (fun _ wr => (tl k).length - seenLenI wr r0)
          case atStart => exact ⟨[], st k, by simp, by simp, hit, rfl, Nat.le_refl _, hn1, fun j hj => absurd hj (by simp), Off.refl _ _ _⟩
          case round =>
            as_aux_lemma =>
              clear hit
              obtain ⟨seen, pl, hnd, hsl, hit, rfl, hp1, hp2, hpp, hO⟩ := hrel
              have hsO := hO.size
              have hmpi := hmp12.off hO (by omega) (by simp; omega)
              have b7i := hO.blk b7r (by omega) (by simp; omega)
              have hXi : Below wc.heap.size wc wr := hXr.trans (hO.below (by omega) (by simp; omega))
              go_wp2_with (first
                | (refine wpList_next_int (.tmp 109) rfl rfl rfl hit hmpi ?_ ?_; intro hall; refine at_stop ?_; rotate_left; intro j q w13 hj hns ht1 hit1 hmp1 hen; refine at_stop ?_))
              all_goals unfold Stop
              · obtain ⟨p, hpa, hpb, rfl⟩ := (HMem.out q).1 (List.mem_of_getElem? hj)
                simp only at hen
                obtain ⟨lo, hi', hlo, hhi, hcm⟩ := HT.out.comes k p hlt hpa hpb
                obtain ⟨hdy0, hdy1⟩ := HT.out.day0 k p hlt hpb
                have HCm := Lib.hid hcm
                have HJ := Lib.hid hj
                have HNS := Lib.hid hns
                have hin : insideV (dy k p) lo hi' = true := by unfold insideV; exact decide_eq_true ⟨hlo, hhi⟩
                have HI1 : Hid (∀ W, Calls Try.prog 32 #[.int .i64 (dy k p), .agg #[.int .i64 lo, .int .i64 hi']] W (Gives (.bool true) W)) := fun W => by have := l_insideV (dy k p) lo hi' W; rwa [hin] at this
                have ht1s := ht1.size
                have hO1 : Off [r0] zc w12 w13 := hO.trans (ht1.off (by omega))
                have b71 := ht1.blk b7i (by omega)
                have hX1 : Below wc.heap.size wc w13 := hXi.trans (ht1.below (Below.refl _ _) (by omega))
                have HIT := Lib.hid hit.len
                clear hcm hj hns hin hO hit hmpi b7i hXi ht1
                go_wp2_with (first
                  | (refine wpList_load_blk 27 (.tmp 7) agg_mob rfl rfl rfl b71 rfl ?_)
                  | (go_at_call 22; refine (HCm.out _ hX1).mono ?_; rintro e w14 ⟨rfl, hb14⟩; refine at_stop ?_))
                unfold Stop
                replace hX1 := hX1.trans (hb14.mono hX1.size)
                have hO2 := hO1.trans (Off.of_below hb14 (by omega))
                have hit2 := hit1.below hb14 hit1.lt
                have hs14 := hb14.size
                clear hb14 HCm b71 hit1 hmp1 hen hO1
                go_wp2_with (first
                  | (refine wpList_store_blk 39 (.tmp 25) (.tmp 120) agg_span rfl rfl rfl rfl (Blk.new _ _ _) rfl rfl (by simp [Value.oneCell']) ?_; intro w15 h; refine at_stop ?_))
                unfold Stop
                have b25 := h.blk
                have hb15 : Below w14.heap.size w14 w15 := h.below ((Below.refl _ _).alloc (Nat.le_refl _) _) (Nat.le_refl _)
                have hO3 := hO2.trans (Off.of_below hb15 (by omega))
                have hit3 := hit2.below hb15 hit2.lt
                have hs15 := hb15.size
                have r25 := b25.cell
                have l25 := b25.lt
                clear h hb15 hit2 hO2
                go_wp2_with (first
                  | (go_at_call 32; refine (HI1.out _).mono ?_; rintro e w16 ⟨rfl, hb16⟩; refine at_stop ?_))
                unfold Stop
                have hO4 := hO3.trans (Off.of_below hb16 (by omega))
                have hit4 := hit3.below hb16 hit3.lt
                have hjl := (List.getElem?_eq_some_iff.1 HJ.out).1
                obtain ⟨hm1, hm2, hm3⟩ := seen_moreI hnd hsl hjl HNS.out
                have hml := hit4.len
                have HML := Lib.hid hml
                clear hml r25 b25 hb16 hO3 hit3 HI1
                by_cases hdd : dy k p ≤ (day : Int)
                · have hle := HN3.out p hpa hpb hdd
                  go_wp2_with (first
                    | (refine wpList_max2 (.tmp 133) (.tmp 134) rfl rfl rfl rfl ?_))
                  refine ⟨⟨seen ++ [j], max pl p, hm1, hm2, hit4, by rw [show ((max pl p : Nat) : Int) = max (pl : Int) (p : Int) by omega], by omega, by omega, ?_, hO4⟩, ?_⟩
                  · intro j' hj' p' hp' hd'
                    rcases List.mem_append.1 hj' with h | h
                    · have := hpp.out j' h p' hp' hd'; omega
                    · simp only [List.mem_singleton] at h
                      subst h
                      have := HJ.out.symm.trans hp'
                      simp only [Option.some.injEq, Prod.mk.injEq] at this
                      omega
                  · rw [HML.out, HIT.out]; simp; omega
                · go_wp2_with fail
                  refine ⟨⟨seen ++ [j], pl, hm1, hm2, hit4, rfl, hp1, hp2, ?_, hO4⟩, ?_⟩
                  · intro j' hj' p' hp' hd'
                    rcases List.mem_append.1 hj' with h | h
                    · exact hpp.out j' h p' hp' hd'
                    · simp only [List.mem_singleton] at h
                      subst h
                      have := HJ.out.symm.trans hp'
                      simp only [Option.some.injEq, Prod.mk.injEq] at this
                      obtain ⟨e1, e2⟩ := this
                      obtain rfl : p = p' := by omega
                      exact absurd hd' hdd
                  · rw [HML.out, HIT.out]; simp; omega
              · have hpl : pl = nw k := by
                  rcases HN4.out with h | h
                  · omega
                  · obtain ⟨j, hj⟩ := List.getElem?_of_mem ((HMem.out _).2 ⟨nw k, hn1, hn2, rfl⟩)
                    have := hpp.out j (hall j (List.getElem?_eq_some_iff.1 hj).1) (nw k) hj h
                    omega
                subst hpl
                have bbi := hO.blk bbr (by omega) (by simp; omega)
                have b19i := hO.blk b19 (by omega) (by simp; omega)
                have owni := ownsRow_offN own (hO.mono (by omega) (fun _ _ h => h)) (fun g e => by have := hgr g e; simp; omega)
                have hBi : Below zb w4 wr := hBr.trans (hO.below (by omega) (by simp; omega))
                obtain ⟨set, hs64, hsb, hcw⟩ := HT.out.now k hlt
                have hbit := bit_of hs64 (show nw k < 6 by omega)
                rw [if_pos hsb] at hbit
                obtain ⟨lo, hi', hl1, hl2, hcs⟩ := HT.out.str k hlt
                have hin : insideV (sf k) lo hi' = true := by unfold insideV; exact decide_eq_true ⟨hl1, hl2⟩
                have HI1 : Hid (∀ W, Calls Try.prog 32 #[.int .i64 (sf k), .agg #[.int .i64 lo, .int .i64 hi']] W (Gives (.bool true) W)) := fun W => by have := l_insideV (sf k) lo hi' W; rwa [hin] at this
                obtain ⟨g, hg, hcg⟩ := HT.out.safe k hlt
                have HCw := Lib.hid hcw
                have HCs := Lib.hid hcs
                have HCg := Lib.hid hcg
                have HG := Lib.hid hg
                obtain ⟨hsf0, hsf1⟩ := HT.out.sf0 k hlt
                clear hcw hcs hcg hg hin hsb hpp hnd hsl hall hO hit hXr hmp12 b7r bbr b19 own HN3 HN4 HMem hBr hgr
                go_wp2_with (first
                  | (refine wpList_load_blk 27 (.tmp 7) agg_mob rfl rfl rfl b7i rfl ?_)
                  | (go_at_call 23; refine (HCw.out _ (hX.trans (hBi.mono (by omega)))).mono ?_; rintro e w20 ⟨rfl, hb⟩; refine at_stop ?_))
                unfold Stop
                replace bbi := bbi.below hb bbi.lt
                replace b7i := b7i.below hb b7i.lt
                replace b19i := b19i.below hb b19i.lt
                replace owni := ownsRow_below owni hb
                replace hmpi := hmpi.below hb hmpi.lt
                replace hBi := hBi.trans (hb.mono (by have := hBi.size; omega))
                clear hb HCw hXi
                go_wp2_with (first
                  | (refine wpList_load_blk 27 (.tmp 7) agg_mob rfl rfl rfl b7i rfl ?_)
                  | (go_at_call 24; refine (HCs.out _ (hX.trans (hBi.mono (by omega)))).mono ?_; rintro e w21 ⟨rfl, hb⟩; refine at_stop ?_))
                unfold Stop
                replace bbi := bbi.below hb bbi.lt
                replace b7i := b7i.below hb b7i.lt
                replace b19i := b19i.below hb b19i.lt
                replace owni := ownsRow_below owni hb
                replace hmpi := hmpi.below hb hmpi.lt
                replace hBi := hBi.trans (hb.mono (by have := hBi.size; omega))
                clear hb HCs
                go_wp2_with (first
                  | (refine wpList_store_blk 39 (.tmp 29) (.tmp 147) agg_span rfl rfl rfl rfl (Blk.new _ _ _) rfl rfl (by simp [Value.oneCell']) ?_; intro w22 h; refine at_stop ?_))
                unfold Stop
                have b29 := h.blk
                have hb : Below w21.heap.size w21 w22 := h.below ((Below.refl _ _).alloc (Nat.le_refl _) _) (Nat.le_refl _)
                replace bbi := bbi.below hb bbi.lt
                replace b7i := b7i.below hb b7i.lt
                replace b19i := b19i.below hb b19i.lt
                replace owni := ownsRow_below owni hb
                replace hmpi := hmpi.below hb hmpi.lt
                replace hBi := hBi.trans (hb.mono (by have := hBi.size; omega))
                clear hb h
                go_wp2_with (first
                  | (refine wpList_load_blk 27 (.tmp 7) agg_mob rfl rfl rfl b7i rfl ?_)
                  | (go_at_call 25; refine (HCg.out _ (hX.trans (hBi.mono (by omega)))).mono ?_; rintro e w23 ⟨rfl, hb⟩; refine at_stop ?_))
                unfold Stop
                replace bbi := bbi.below hb bbi.lt
                replace b7i := b7i.below hb b7i.lt
                replace b19i := b19i.below hb b19i.lt
                replace owni := ownsRow_below owni hb
                replace hmpi := hmpi.below hb hmpi.lt
                replace b29 := b29.below hb b29.lt
                replace hBi := hBi.trans (hb.mono (by have := hBi.size; omega))
                clear hb HCg
                go_upto_region 26 with fail
                have hl29 := b29.lt
                have hl19 := b19i.lt
                go_cut [197] from 155 to 197 (fun q wx => q = .bool false ∧ Below w23.heap.size w23 wx)
                case first =>
                  as_aux_lemma =>
                    have r29 := b29.cell
                    have r19 := b19i.cell
                    have hg := HG.out
                    clear HG HT HSh HA HIn HGet HMR hrD HDg HHd HDl bbi b7i owni hmpi hBi hBx hX b29
                    rcases hg with ⟨rfl, hg⟩ | rfl | ⟨rfl, hg⟩
                    all_goals
                      go_wp2_with (first
                        | (go_at_call 32; refine (HI1.out _).mono ?_; rintro e w24 ⟨rfl, hb24⟩; have r19b := (b19i.below hb24 hl19).cell))
                      go_meet
                      exact ⟨by first | rfl | (simp; omega), hb24⟩
                case rest =>
                  obtain ⟨rfl, hbx⟩ := hcut
                  clear HI1 HG hbit hl29 hl19
                  replace bbi := bbi.below hbx bbi.lt
                  replace b7i := b7i.below hbx b7i.lt
                  replace b19i := b19i.below hbx b19i.lt
                  replace owni := ownsRow_below owni hbx
                  replace hmpi := hmpi.below hbx hmpi.lt
                  replace hBi := hBi.trans (hbx.mono (by have := hBi.size; omega))
                  clear hbx b29
                  have hgt : getI (tl k) ((ps.length : Int) - 1) = dy k (ps.length - 1) := by rw [← HGet.out]; congr 1; omega
                  have hik : Ik ((ps.length : Int) - 1) := ⟨by omega, by omega⟩
                  have HGt := Lib.hid hgt
                  clear hgt
                  have hdy := HT.out.day0 k (ps.length - 1) hlt (by omega)
                  obtain ⟨hs1, hs2⟩ := HSh.out k hlt
                  have hBis := hBi.size
                  by_cases his : dy k (ps.length - 1) ≤ (day : Int)
                  · have hb2 := bit_of (x := pe) (p := k) (by omega) (by omega)
                    rw [if_pos (hs1 his)] at hb2
                    clear hs1 hs2
                    go_wp2_with (first
                      | (refine wpList_lookup_int (.tmp 198) (.tmp 199) rfl rfl rfl rfl hmpi hok hik ?_; rw [HGt.out])
                      | (refine wpList_lookup_int (.tmp 223) (.tmp 224) rfl rfl rfl rfl hmpi hok hik ?_; rw [HGt.out])
                      | (at_builtin; refine at_stop ?_))
                    unfold Stop
                    refine wpList_appendW rfl (.tmp 222) (.tmp 226) 50 rfl zb 3 i0 (.int .i64 0) 1 8 Try.underlying50 hi0 hz0 hz1 hz2 rfl (by decide) u17 ((List.range k).map fun i => dy i (ps.length - 1)).length (((List.range k).map fun i => dy i (ps.length - 1)).flatMap itc) rfl (World.ownsRow.alloc owni _) (.slice (some ⟨_, 0, none⟩) 1 1) 1 [.int .i64 (dy k (ps.length - 1))] rfl ⟨rfl, .inr ⟨_, _, rfl, news_blk (A := #[.int .i64 (dy k (ps.length - 1))]) (Blk.new _ _ _)⟩⟩ (by simp [Value.oneCell']) (by simp; unfold maxLen; omega) (by simp; omega) (by first | omega | (simp; done) | (simp; omega)) ?_
                    intro va wa owna hga hwa
                    have hge : ∀ g, u17.ownBlock = some g → zb ≤ g := fun g e => (owni.lt g e).1
                    go_wp2_with fail
                    refine ⟨⟨k + 1, by omega, by go_num, Below.grown (hBi.alloc (by have := hBi.size; omega) _) hga (by have := hBi.size; simp; omega) hge, by simpa [List.range_succ, itc] using owna⟩, by simp [intOf]; omega⟩
                  · have hb2 := bit_of (x := su) (p := k) (by omega) (by omega)
                    rw [if_neg (by rw [hs2 (by omega)]; simp)] at hb2
                    clear hs1 hs2
                    go_wp2_with (first
                      | (refine wpList_lookup_int (.tmp 198) (.tmp 199) rfl rfl rfl rfl hmpi hok hik ?_; rw [HGt.out])
                      | (refine wpList_lookup_int (.tmp 223) (.tmp 224) rfl rfl rfl rfl hmpi hok hik ?_; rw [HGt.out])
                      | (at_builtin; refine at_stop ?_))
                    unfold Stop
                    refine wpList_appendW rfl (.tmp 222) (.tmp 226) 50 rfl zb 3 i0 (.int .i64 0) 1 8 Try.underlying50 hi0 hz0 hz1 hz2 rfl (by decide) u17 ((List.range k).map fun i => dy i (ps.length - 1)).length (((List.range k).map fun i => dy i (ps.length - 1)).flatMap itc) rfl (World.ownsRow.alloc owni _) (.slice (some ⟨_, 0, none⟩) 1 1) 1 [.int .i64 (dy k (ps.length - 1))] rfl ⟨rfl, .inr ⟨_, _, rfl, news_blk (A := #[.int .i64 (dy k (ps.length - 1))]) (Blk.new _ _ _)⟩⟩ (by simp [Value.oneCell']) (by simp; unfold maxLen; omega) (by simp; omega) (by first | omega | (simp; done) | (simp; omega)) ?_
                    intro va wa owna hga hwa
                    have hge : ∀ g, u17.ownBlock = some g → zb ≤ g := fun g e => (owni.lt g e).1
                    go_wp2_with fail
                    refine ⟨⟨k + 1, by omega, by go_num, Below.grown (hBi.alloc (by have := hBi.size; omega) _) hga (by have := hBi.size; simp; omega) hge, by simpa [List.range_succ, itc] using owna⟩, by simp [intOf]; omega⟩
        · have hlti : ¬ (k : Int) < (hs.length : Int) := by omega
          obtain rfl : k = hs.length := by omega
          obtain ⟨gc, cq, rfl, hrc⟩ := own_rows (f := itc) (fun _ => rfl) own
          have hlc : ((List.range hs.length).map fun i => dy i (ps.length - 1)).length = hs.length := by simp
          have HC : Hid (∀ i, i < hs.length → ∃ g o, gc = some ⟨g, o, none⟩ ∧ wr.cell? ⟨g, o + i, none⟩ = some (.int .i64 (dy i (ps.length - 1)))) := fun i hi => by
            obtain ⟨g, o, e, h⟩ := RowsAt.get1 hrc (i := i) (by simpa using hi)
            exact ⟨g, o, e, by simpa using h⟩
          rw [hlc]
          clear own hrc hlc hBr hBxr bbr HSh HHd HDl HDg HMR hrD HIn bb b7
          generalize wr = wy at *
          clear wr
          obtain ⟨zd, hzd'⟩ : ∃ z, wy.heap.size = z := ⟨_, rfl⟩
          have hzd : wy.heap.size ≤ zd ∧ zd ≤ wy.heap.size := by omega
          clear hzd'
          have hl7 := b7r.lt
          have hXq := hXr.size
          go_wp2_with fail
          go_loopw [231] (fun x231 wr => ∃ i : Nat, i ≤ hs.length ∧ x231 = .int .i64 (i : Int) ∧ Below zd wy wr) (fun x231 _ => hs.length - (intOf x231).toNat)
          case atStart => exact ⟨0, by omega, rfl, Below.refl _ _⟩
          case round =>
            as_aux_lemma =>
              obtain ⟨i, hi, rfl, hBz⟩ := hrel
              by_cases hlt2 : i < hs.length
              · have hlti2 : (i : Int) < (hs.length : Int) := Int.ofNat_lt.2 hlt2
                obtain ⟨g1, o1, rfl, ec⟩ := HC.out i hlt2
                have hg1 := World.block_lt_of_cell? wy _ ec
                simp only at hg1
                have eci := (hBz.cell (p := ⟨g1, o1 + i, none⟩) (by show g1 < _; omega)).trans ec
                go_wp2_with fail
                generalize wr = wi at *
                clear wr
                go_loopw [238] (fun x238 wr => ∃ j : Nat, j ≤ hs.length ∧ x238 = .int .i64 (j : Int) ∧ Below zd wy wr) (fun x238 _ => hs.length - (intOf x238).toNat)
                case atStart => exact ⟨0, by omega, rfl, hBz⟩
                case round =>
                  as_aux_lemma =>
                    clear eci
                    obtain ⟨j, hj, rfl, hBj⟩ := hrel
                    by_cases hlt3 : j < hs.length
                    · have hlti3 : (j : Int) < (hs.length : Int) := Int.ofNat_lt.2 hlt3
                      obtain ⟨_, _, e2, ed⟩ := HC.out j hlt3
                      cases e2
                      have edj := (hBj.cell (p := ⟨g1, o1 + j, none⟩) (by show g1 < _; omega)).trans ed
                      obtain ⟨g, hg, hca⟩ := HT.out.ahead i j hlt2 hlt3
                      have HCa := Lib.hid hca
                      have HG := Lib.hid hg
                      have b7j := b7r.below hBj (by omega)
                      have hXj : Below wc.heap.size wc wr := hXr.trans (hBj.mono (by omega))
                      clear hca hg ed ec
                      go_wp2_with (first
                        | (refine wpList_load_blk 27 (.tmp 7) agg_mob rfl rfl rfl b7j rfl ?_)
                        | (go_at_call 13; refine (HCa.out _ hXj).mono ?_; rintro e w30 ⟨rfl, hb30⟩; refine at_stop ?_))
                      unfold Stop
                      have hBk := hBj.trans (hb30.mono (by have := hBj.size; omega))
                      have hg := HG.out
                      clear HG HCa hb30 edj b7j
                      rcases hg with ⟨rfl, hg⟩ | rfl | ⟨rfl, hg⟩
                      all_goals
                        go_wp2_with fail
                        exact ⟨⟨j + 1, by omega, by go_num, hBk⟩, by simp [intOf]; omega⟩
                    · have hlti3 : ¬ (j : Int) < (hs.length : Int) := by omega
                      go_wp2_with fail
                      exact ⟨⟨i + 1, by omega, by go_num, hBj⟩, by simp [intOf]; omega⟩
              · have hlti2 : ¬ (i : Int) < (hs.length : Int) := by omega
                go_wp2_with (first
                  | (go_at_call 12; refine (HA.out _).mono ?_; rintro e w31 ⟨rfl, hb31⟩))
                (try go_ret)
                have hF := hBx.trans ((hXr.trans (hBz.mono (by omega))).mono hBx.size)
                exact ⟨rfl, hF.trans (hb31.mono hF.size)⟩
end Go.Proofs.Yteeinehpneppnaa
