/- Parts of a proof: Holds, WaysP. -/
import Derived.Test.YtjbjmoghloabpaaM40
/- The law's holds: is all that is known right, if a set of voters gave white beans? -/
set_option linter.unusedVariables false
set_option linter.unusedSimpArgs false
namespace Go.Proofs.Ytjbjmoghloabpaa
open Go.RowKit Go.Proofs
attribute [local irreducible] Ord.walk
def hG (wh : Nat) (g : Int × Int × Int) : Bool := inB (sz (g.1.toNat &&& wh) : Nat) g.2.1 g.2.2
def hP (wh : Nat) (p : Int × Int × Bool) : Bool := ((bitI wh p.1.toNat == bitI wh p.2.1.toNat) == p.2.2)
def holdsB (b : Bn) (wh : Nat) : Bool := b.gs.all (hG wh) && (b.ps.all (hP wh) && inB (sz wh : Nat) b.lo b.hi)
theorem l_inside (n lo hi : Int) (w : World) : Calls Try.prog 94 #[.int .i64 n, .agg #[.int .i64 lo, .int .i64 hi]] w (Gives (.bool (inB n lo hi)) w) := by
  go_enter Try.func94, Try.ntmps94
  go_wp2
  all_goals go_ret
  all_goals (refine ⟨ret_bool ?_, (Below.refl _ _).alloc (Nat.le_refl _) _⟩; simp [inB]; omega)
theorem gs_all_take {α : Type} (l : List α) (p : α → Bool) (k : Nat) (hk : k < l.length) (h : (l.take k).all p = true) (h2 : p l[k] = true) : (l.take (k + 1)).all p = true := by
  rw [List.take_succ_eq_append_getElem hk, List.all_append, h]; simp [h2]
theorem all_no {α : Type} (l : List α) (p : α → Bool) (k : Nat) (hk : k < l.length) (h2 : p l[k] = false) : l.all p = false := by
  rw [List.all_eq_false]; exact ⟨_, List.getElem_mem hk, by simp [h2]⟩

set_option maxHeartbeats 4000000 in
set_option maxRecDepth 100000 in
theorem l_holds (b : Bn) (ga : Option Addr) (gc : Nat) (pa : Option Addr) (pc : Nat) (wh : Nat) (w : World) (hg : GsAt w ga b.gs) (hp : PsAt w pa b.ps) (hv : valid b = true) (hw : wh < 256) :
    Calls Try.prog 39 #[bv b ga gc pa pc, .int .i64 wh] w (Gives (.bool (holdsB b wh)) w) := by
  have hV := valid_V hv
  have hw9 : wh < 4611686018427387904 := by omega
  have HI := Lib.hid (fun n lo hi w => l_inside n lo hi w)
  have HX := Lib.hid (l_size wh (by omega))
  have HR : Hid (holdsB b wh = (b.gs.all (hG wh) && (b.ps.all (hP wh) && inB (sz wh : Nat) b.lo b.hi))) := rfl
  have HG := Lib.hid (fun (i : Nat) (hi : i < b.gs.length) => valid_g hv hi)
  have HPv := Lib.hid (fun (i : Nat) (hi : i < b.ps.length) => valid_p hv hi)
  have HL := Lib.hid (valid_len hv)
  generalize sz wh = s0 at *
  generalize holdsB b wh = R at *
  clear hv
  rcases b with ⟨V, nd, lo, hi, gs, ps⟩
  unfold bv at *
  simp only at *
  go_enter Try.func39, Try.ntmps39
  go_wp2_with fail
  obtain ⟨w0, hw0⟩ : ∃ w0, w0 = w.alloc (.cells #[.int .i64 V, .int .i64 nd, .int .i64 lo, .int .i64 hi, .slice ga gs.length gc, .slice pa ps.length pc] 27) := ⟨_, rfl⟩
  have bb : Blk w0 w.heap.size #[.int .i64 V, .int .i64 nd, .int .i64 lo, .int .i64 hi, .slice ga gs.length gc, .slice pa ps.length pc] 27 := by rw [hw0]; exact Blk.new _ _ _
  have hB0 : Below w.heap.size w w0 := by rw [hw0]; exact (Below.refl _ _).alloc (Nat.le_refl _) _
  rw [← hw0]
  clear hw0
  go_loopw [13] (fun i wr => ∃ k : Nat, k ≤ gs.length ∧ i = .int .i64 k ∧ (gs.take k).all (hG wh) = true ∧ Below w0.heap.size w0 wr) (fun i _ => gs.length - (intOf i).toNat)
  case atStart => exact ⟨0, by omega, rfl, rfl, Below.refl _ _⟩
  case round =>
    obtain ⟨k, hk, rfl, hall, hBr⟩ := hrel
    have hsr := hBr.size
    have hgl4 := HL.out.1
    have HALL := Lib.hid hall
    clear hall
    by_cases hlt : k < gs.length
    · have hlti : (k : Int) < (gs.length : Int) := by omega
      obtain ⟨gb, go, rfl, e1, e2, e3⟩ := hg k hlt
      have hBw := hB0.trans (hBr.mono hB0.size)
      have i1 : wr.cell? _ = some _ := (hBw.cell (World.block_lt_of_cell? w _ e1)).trans e1
      have i2 : wr.cell? _ = some _ := (hBw.cell (World.block_lt_of_cell? w _ e2)).trans e2
      have i3 : wr.cell? _ = some _ := (hBw.cell (World.block_lt_of_cell? w _ e3)).trans e3
      have hgb : gb < wr.heap.size := World.block_lt_of_cell? wr _ i1
      have hgk := HG.out k hlt
      have HT1 := Lib.hid (gs_all_take gs (hG wh) k hlt HALL.out)
      have HT0 := Lib.hid (all_no gs (hG wh) k hlt)
      generalize gs[k] = g at *
      obtain ⟨g1, gl, gh⟩ := g
      simp only at i1 i2 i3 hgk
      obtain ⟨gn, rfl⟩ : ∃ gn : Nat, g1 = (gn : Int) := ⟨g1.toNat, by omega⟩
      have hand := and_i64 gn wh (by omega) (by omega)
      have hle : gn &&& wh ≤ gn := Nat.and_le_left
      have HXg := Lib.hid (l_size (gn &&& wh) (by omega))
      have HTG : Hid (hG wh ((gn : Int), gl, gh) = inB (sz (gn &&& wh) : Nat) gl gh) := rfl
      generalize sz (gn &&& wh) = s1 at *
      generalize gn &&& wh = gw at *
      have HIg := Lib.hid (fun W => HI.out (s1 : Int) gl gh W)
      clear e1 e2 e3
      cases hin : inB (s1 : Nat) gl gh
      · rw [hin] at HIg HTG
        have hf := HT0.out HTG.out
        have HRf : Hid (R = false) := by show _ = _; rw [HR.out, hf]; rfl
        clear hin hf
        go_wp2_with fail
        refine Ord.wp_region [(0, 0), (1, 0), (2, 0), (3, 0), (4, 0), (5, 0), (6, 0), (7, 0), (8, 2), (9, 0)] (fun _ => True) (by kernel_rfl) (by kernel_rfl) (fun c a d v w h => by cases d <;> exact h) trivial ?_
        go_wp2_with (first
          | (go_at_call 94; refine (HIg.out _).mono ?_; rintro e w5 ⟨rfl, hb5⟩)
          | ((with_reducible refine Ord.at_calm ?_); refine Ord.calm_skip rfl ?_ (fun K hK => ?_); (focus (simp [Region.wanted, yielded]; done))) | with_reducible refine Ord.walk_calm rfl rfl (fun K hK => ?_) | ((with_reducible refine Ord.at_wild ?_); refine Ord.wild_fieldAddr rfl rfl (fun W => by simp [go_sem]; rfl) (fun K hK => ?_)) | ((with_reducible refine Ord.at_wild ?_); refine Ord.wild_move rfl rfl (fun K hK => ?_)) | ((with_reducible refine Ord.at_wild ?_); refine Ord.wild_nilCheck rfl rfl (fun K hK => ?_)) | with_reducible refine Ord.walk_eff rfl (by first | (simp; done) | assumption | (go_simp; done) | (repeat (first | assumption | exact Below.refl _ _ | refine Below.drew ?_ | refine Below.alloc ?_ (by first | omega | (simp; done) | (simp; omega)) _ | refine Below.setCell ?_ (by first | omega | (simp; done) | (simp; omega)) _ | refine Below.trans ?_ (Below.mono (by assumption) (by first | omega | (simp; done) | (simp; omega)))))) (fun K hK => ?_) | with_reducible refine Ord.at_fork ?_ ?_ | with_reducible refine Ord.walk_nil ?_ | (with_reducible refine Ord.next_of (by first | (simp; done) | (go_simp; done) | (repeat (first | assumption | exact Below.refl _ _ | refine Below.drew ?_ | refine Below.alloc ?_ (by first | omega | (simp; done) | (simp; omega)) _ | refine Below.setCell ?_ (by first | omega | (simp; done) | (simp; omega)) _ | refine Below.trans ?_ (Below.mono (by assumption) (by first | omega | (simp; done) | (simp; omega)))))) (fun _ => ?_))
          | ((with_reducible refine Ord.at_calm ?_); refine Ord.calm_call rfl (fun W => Try.call38 _ W) (HXg.out _) (fun K hK => ?_)) | ((with_reducible refine Ord.at_wild ?_); refine Ord.wild_call rfl (fun W => Try.call38 _ W) (fun W hW => HXg.out _) (fun K hK => ?_)))
        have hb5' : Below wr.heap.size wr w5 := (((Below.refl _ _).alloc (Nat.le_refl _) _).drew.trans (hb5.mono (by simp)))
        go_ret
        exact ⟨by rw [HRf.out]; rfl, hBw.trans (hb5'.mono hBw.size)⟩
      · rw [hin] at HIg HTG
        have ht := HT1.out HTG.out
        have HTT := Lib.hid ht
        clear hin ht
        go_wp2_with fail
        refine Ord.wp_region [(0, 0), (1, 0), (2, 0), (3, 0), (4, 0), (5, 0), (6, 0), (7, 0), (8, 2), (9, 0)] (fun _ => True) (by kernel_rfl) (by kernel_rfl) (fun c a d v w h => by cases d <;> exact h) trivial ?_
        go_wp2_with (first
          | (go_at_call 94; refine (HIg.out _).mono ?_; rintro e w5 ⟨rfl, hb5⟩)
          | ((with_reducible refine Ord.at_calm ?_); refine Ord.calm_skip rfl ?_ (fun K hK => ?_); (focus (simp [Region.wanted, yielded]; done))) | with_reducible refine Ord.walk_calm rfl rfl (fun K hK => ?_) | ((with_reducible refine Ord.at_wild ?_); refine Ord.wild_fieldAddr rfl rfl (fun W => by simp [go_sem]; rfl) (fun K hK => ?_)) | ((with_reducible refine Ord.at_wild ?_); refine Ord.wild_move rfl rfl (fun K hK => ?_)) | ((with_reducible refine Ord.at_wild ?_); refine Ord.wild_nilCheck rfl rfl (fun K hK => ?_)) | with_reducible refine Ord.walk_eff rfl (by first | (simp; done) | assumption | (go_simp; done) | (repeat (first | assumption | exact Below.refl _ _ | refine Below.drew ?_ | refine Below.alloc ?_ (by first | omega | (simp; done) | (simp; omega)) _ | refine Below.setCell ?_ (by first | omega | (simp; done) | (simp; omega)) _ | refine Below.trans ?_ (Below.mono (by assumption) (by first | omega | (simp; done) | (simp; omega)))))) (fun K hK => ?_) | with_reducible refine Ord.at_fork ?_ ?_ | with_reducible refine Ord.walk_nil ?_ | (with_reducible refine Ord.next_of (by first | (simp; done) | (go_simp; done) | (repeat (first | assumption | exact Below.refl _ _ | refine Below.drew ?_ | refine Below.alloc ?_ (by first | omega | (simp; done) | (simp; omega)) _ | refine Below.setCell ?_ (by first | omega | (simp; done) | (simp; omega)) _ | refine Below.trans ?_ (Below.mono (by assumption) (by first | omega | (simp; done) | (simp; omega)))))) (fun _ => ?_))
          | ((with_reducible refine Ord.at_calm ?_); refine Ord.calm_call rfl (fun W => Try.call38 _ W) (HXg.out _) (fun K hK => ?_)) | ((with_reducible refine Ord.at_wild ?_); refine Ord.wild_call rfl (fun W => Try.call38 _ W) (fun W hW => HXg.out _) (fun K hK => ?_)))
        have hb5' : Below wr.heap.size wr w5 := (((Below.refl _ _).alloc (Nat.le_refl _) _).drew.trans (hb5.mono (by simp)))
        exact ⟨⟨k + 1, by omega, by go_num, HTT.out, hBr.trans (hb5'.mono hsr)⟩, by simp [intOf]; omega⟩
    · have hlti : ¬ (k : Int) < (gs.length : Int) := by omega
      have e : k = gs.length := by omega
      subst e
      have hB0r := hBr
      have hAG := HALL.out
      rw [List.take_length] at hAG
      have HAG := Lib.hid hAG
      have b2 := bb.below hBr bb.lt
      have hBw := hB0.trans (hBr.mono hB0.size)
      clear hAG HALL hBr HG
      have r2 := b2.cell
      go_wp2_with fail
      generalize wr = wq at *
      go_loopw [31] (fun i wr => ∃ j : Nat, j ≤ ps.length ∧ i = .int .i64 j ∧ (ps.take j).all (hP wh) = true ∧ Below wq.heap.size wq wr) (fun i _ => ps.length - (intOf i).toNat)
      case atStart => exact ⟨0, by omega, rfl, rfl, Below.refl _ _⟩
      case round =>
        obtain ⟨j, hj, rfl, hall, hBx⟩ := hrel
        have hsx := hBx.size
        have hpl4 := HL.out.2
        have HALP := Lib.hid hall
        have hBz := hBw.trans (hBx.mono hBw.size)
        clear hall r2
        by_cases hjt : j < ps.length
        · have hjti : (j : Int) < (ps.length : Int) := by omega
          obtain ⟨pb, po, rfl, e1, e2, e3⟩ := hp j hjt
          have i1 : wr.cell? _ = some _ := (hBz.cell (World.block_lt_of_cell? w _ e1)).trans e1
          have i2 : wr.cell? _ = some _ := (hBz.cell (World.block_lt_of_cell? w _ e2)).trans e2
          have i3 : wr.cell? _ = some _ := (hBz.cell (World.block_lt_of_cell? w _ e3)).trans e3
          have hpb : pb < wr.heap.size := World.block_lt_of_cell? wr _ i1
          have hpk := HPv.out j hjt
          have HT1 := Lib.hid (gs_all_take ps (hP wh) j hjt HALP.out)
          have HT0 := Lib.hid (all_no ps (hP wh) j hjt)
          generalize ps[j] = pp at *
          obtain ⟨pA, pB, pS⟩ := pp
          simp only at i1 i2 i3 hpk
          obtain ⟨pa1, rfl⟩ : ∃ n : Nat, pA = (n : Int) := ⟨pA.toNat, by omega⟩
          obtain ⟨pb1, rfl⟩ : ∃ n : Nat, pB = (n : Int) := ⟨pB.toNat, by omega⟩
          have hq1 := bit_i64 wh pa1 hw9
          have hq2 := bit_i64 wh pb1 hw9
          have HTP : Hid (hP wh ((pa1 : Int), (pb1 : Int), pS) = ((bitI wh pa1 == bitI wh pb1) == pS)) := rfl
          generalize bitI wh pa1 = q1 at *
          generalize bitI wh pb1 = q2 at *
          clear e1 e2 e3
          cases hin : ((q1 == q2) == pS)
          · rw [hin] at HTP
            have hf := HT0.out HTP.out
            have HRf : Hid (R = false) := by show _ = _; rw [HR.out, hf]; simp
            have hne : (!((q1 == q2) == pS)) = true := by rw [hin]; rfl
            clear hf
            have HIN := Lib.hid hin
            clear hin
            go_wp2_with fail
            refine Ord.wp_region [(0, 0), (1, 0), (2, 0), (3, 0), (4, 0), (5, 0), (6, 0), (7, 0), (8, 0), (9, 0), (10, 0), (11, 0), (12, 0), (13, 0)] (fun _ => True) (by kernel_rfl) (by kernel_rfl) (fun c a d v w h => by cases d <;> exact h) trivial ?_
            go_wp2_with (first
              | ((with_reducible refine Ord.at_calm ?_); refine Ord.calm_skip rfl ?_ (fun K hK => ?_); (focus (simp [Region.wanted, yielded]; done))) | with_reducible refine Ord.walk_calm rfl rfl (fun K hK => ?_) | ((with_reducible refine Ord.at_wild ?_); refine Ord.wild_fieldAddr rfl rfl (fun W => by simp [go_sem]; rfl) (fun K hK => ?_)) | ((with_reducible refine Ord.at_wild ?_); refine Ord.wild_move rfl rfl (fun K hK => ?_)) | ((with_reducible refine Ord.at_wild ?_); refine Ord.wild_nilCheck rfl rfl (fun K hK => ?_)) | with_reducible refine Ord.walk_eff rfl (by first | (simp; done) | assumption | (go_simp; done) | (repeat (first | assumption | exact Below.refl _ _ | refine Below.drew ?_ | refine Below.alloc ?_ (by first | omega | (simp; done) | (simp; omega)) _ | refine Below.setCell ?_ (by first | omega | (simp; done) | (simp; omega)) _ | refine Below.trans ?_ (Below.mono (by assumption) (by first | omega | (simp; done) | (simp; omega)))))) (fun K hK => ?_) | with_reducible refine Ord.at_fork ?_ ?_ | with_reducible refine Ord.walk_nil ?_ | (with_reducible refine Ord.next_of (by first | (simp; done) | (go_simp; done) | (repeat (first | assumption | exact Below.refl _ _ | refine Below.drew ?_ | refine Below.alloc ?_ (by first | omega | (simp; done) | (simp; omega)) _ | refine Below.setCell ?_ (by first | omega | (simp; done) | (simp; omega)) _ | refine Below.trans ?_ (Below.mono (by assumption) (by first | omega | (simp; done) | (simp; omega)))))) (fun _ => ?_)))
            all_goals go_ret
            all_goals exact ⟨by rw [HRf.out]; rfl, hBz.trans (((Below.refl _ _).alloc (Nat.le_refl _) _).drew.mono hBz.size)⟩
          · rw [hin] at HTP
            have ht := HT1.out HTP.out
            have HTT := Lib.hid ht
            have hne : (!((q1 == q2) == pS)) = false := by rw [hin]; rfl
            have HIN := Lib.hid hin
            clear hin ht
            go_wp2_with fail
            refine Ord.wp_region [(0, 0), (1, 0), (2, 0), (3, 0), (4, 0), (5, 0), (6, 0), (7, 0), (8, 0), (9, 0), (10, 0), (11, 0), (12, 0), (13, 0)] (fun _ => True) (by kernel_rfl) (by kernel_rfl) (fun c a d v w h => by cases d <;> exact h) trivial ?_
            go_wp2_with (first
              | ((with_reducible refine Ord.at_calm ?_); refine Ord.calm_skip rfl ?_ (fun K hK => ?_); (focus (simp [Region.wanted, yielded]; done))) | with_reducible refine Ord.walk_calm rfl rfl (fun K hK => ?_) | ((with_reducible refine Ord.at_wild ?_); refine Ord.wild_fieldAddr rfl rfl (fun W => by simp [go_sem]; rfl) (fun K hK => ?_)) | ((with_reducible refine Ord.at_wild ?_); refine Ord.wild_move rfl rfl (fun K hK => ?_)) | ((with_reducible refine Ord.at_wild ?_); refine Ord.wild_nilCheck rfl rfl (fun K hK => ?_)) | with_reducible refine Ord.walk_eff rfl (by first | (simp; done) | assumption | (go_simp; done) | (repeat (first | assumption | exact Below.refl _ _ | refine Below.drew ?_ | refine Below.alloc ?_ (by first | omega | (simp; done) | (simp; omega)) _ | refine Below.setCell ?_ (by first | omega | (simp; done) | (simp; omega)) _ | refine Below.trans ?_ (Below.mono (by assumption) (by first | omega | (simp; done) | (simp; omega)))))) (fun K hK => ?_) | with_reducible refine Ord.at_fork ?_ ?_ | with_reducible refine Ord.walk_nil ?_ | (with_reducible refine Ord.next_of (by first | (simp; done) | (go_simp; done) | (repeat (first | assumption | exact Below.refl _ _ | refine Below.drew ?_ | refine Below.alloc ?_ (by first | omega | (simp; done) | (simp; omega)) _ | refine Below.setCell ?_ (by first | omega | (simp; done) | (simp; omega)) _ | refine Below.trans ?_ (Below.mono (by assumption) (by first | omega | (simp; done) | (simp; omega)))))) (fun _ => ?_)))
            all_goals exact ⟨⟨j + 1, by omega, by go_num, HTT.out, hBx.trans (((Below.refl _ _).alloc (Nat.le_refl _) _).drew.mono hsx)⟩, by simp [intOf]; omega⟩
        · have hjti : ¬ (j : Int) < (ps.length : Int) := by omega
          have e : j = ps.length := by omega
          subst e
          have hAP := HALP.out
          rw [List.take_length] at hAP
          have HRf : Hid (R = inB (s0 : Nat) lo hi) := by show _ = _; rw [HR.out, HAG.out, hAP]; simp
          have r3 := (b2.below hBx b2.lt).cell
          have HI0 := Lib.hid (fun W => HI.out (s0 : Int) lo hi W)
          clear hAP HALP HAG
          generalize inB (s0 : Nat) lo hi = rr at *
          go_wp2_with fail
          refine Ord.wp_region [(0, 0), (1, 0), (2, 0), (3, 0), (4, 0), (5, 2), (6, 0)] (fun _ => True) (by kernel_rfl) (by kernel_rfl) (fun c a d v w h => by cases d <;> exact h) trivial ?_
          go_wp2_with (first
            | (go_at_call 94; refine (HI0.out _).mono ?_; rintro e w5 ⟨rfl, hb5⟩)
            | ((with_reducible refine Ord.at_calm ?_); refine Ord.calm_skip rfl ?_ (fun K hK => ?_); (focus (simp [Region.wanted, yielded]; done))) | with_reducible refine Ord.walk_calm rfl rfl (fun K hK => ?_) | ((with_reducible refine Ord.at_wild ?_); refine Ord.wild_fieldAddr rfl rfl (fun W => by simp [go_sem]; rfl) (fun K hK => ?_)) | ((with_reducible refine Ord.at_wild ?_); refine Ord.wild_move rfl rfl (fun K hK => ?_)) | ((with_reducible refine Ord.at_wild ?_); refine Ord.wild_nilCheck rfl rfl (fun K hK => ?_)) | with_reducible refine Ord.walk_eff rfl (by first | (simp; done) | assumption | (go_simp; done) | (repeat (first | assumption | exact Below.refl _ _ | refine Below.drew ?_ | refine Below.alloc ?_ (by first | omega | (simp; done) | (simp; omega)) _ | refine Below.setCell ?_ (by first | omega | (simp; done) | (simp; omega)) _ | refine Below.trans ?_ (Below.mono (by assumption) (by first | omega | (simp; done) | (simp; omega)))))) (fun K hK => ?_) | with_reducible refine Ord.at_fork ?_ ?_ | with_reducible refine Ord.walk_nil ?_ | (with_reducible refine Ord.next_of (by first | (simp; done) | (go_simp; done) | (repeat (first | assumption | exact Below.refl _ _ | refine Below.drew ?_ | refine Below.alloc ?_ (by first | omega | (simp; done) | (simp; omega)) _ | refine Below.setCell ?_ (by first | omega | (simp; done) | (simp; omega)) _ | refine Below.trans ?_ (Below.mono (by assumption) (by first | omega | (simp; done) | (simp; omega)))))) (fun _ => ?_))
            | ((with_reducible refine Ord.at_calm ?_); refine Ord.calm_call rfl (fun W => Try.call38 _ W) (HX.out _) (fun K hK => ?_)) | ((with_reducible refine Ord.at_wild ?_); refine Ord.wild_call rfl (fun W => Try.call38 _ W) (fun W hW => HX.out _) (fun K hK => ?_)))
          have hb5' : Below wr.heap.size wr w5 := (Below.refl _ _).drew.trans hb5
          go_ret
          exact ⟨by rw [HRf.out]; rfl, hBz.trans (hb5'.mono hBz.size)⟩
end Go.Proofs.Ytjbjmoghloabpaa
/- Plain laws of the law BeanWays. -/
set_option linter.unusedVariables false
set_option linter.unusedSimpArgs false
namespace Go.Proofs.Ytjbjmoghloabpaa
open Go.RowKit Go.Proofs
attribute [local irreducible] Ord.walk
theorem okB_holds {b : Bn} (hv : valid b = true) {w : Nat} (hw : w < 256) : okB b (2 ^ b.kn - 1) w = holdsB b w := by
  have hV := valid_V hv
  unfold okB
  rw [okTo_eq hv _ _ _ (by rw [kn_len]; exact Nat.le_refl _)]
  have h0 : selTo (knOf b) (2 ^ b.kn - 1) b.kn = knOf b := by
    have := sel_full (knOf b) []
    unfold sel at this
    rw [List.append_nil, List.append_nil, kn_len] at this
    exact this
  rw [h0]
  unfold holdsB knOf
  rw [List.all_append, List.all_map, List.all_map]
  have e1 : b.gs.all ((rightK (hasB w)) ∘ gkn) = b.gs.all (hG w) := by
    rw [Bool.eq_iff_iff, List.all_eq_true, List.all_eq_true]
    have hgo : ∀ g ∈ b.gs, gOk b.V g = true := by
      have h := hv
      simp only [valid, Bool.and_eq_true, List.all_eq_true] at h; exact h.1.2
    have key : ∀ g ∈ b.gs, ((rightK (hasB w)) ∘ gkn) g = hG w g := by
      intro g hg
      obtain ⟨h1, _⟩ := gOk_parts hV.2 (hgo g hg)
      show inB (cntG g.1.toNat (hasB w) : Nat) g.2.1 g.2.2 = inB (sz (g.1.toNat &&& w) : Nat) g.2.1 g.2.2
      rw [cntG_and _ _ h1]
    exact ⟨fun h g hg => by rw [← key g hg]; exact h g hg, fun h g hg => by rw [key g hg]; exact h g hg⟩
  have e2 : b.ps.all ((rightK (hasB w)) ∘ pkn) = b.ps.all (hP w) := by
    congr 1
    funext p
    show ((hasB w p.1.toNat == hasB w p.2.1.toNat) == p.2.2) = ((bitI w p.1.toNat == bitI w p.2.1.toNat) == p.2.2)
    rw [bitI_eq]
  rw [e1, e2]
  generalize b.gs.all (hG w) = x
  generalize b.ps.all (hP w) = y
  generalize inB (sz w : Nat) b.lo b.hi = z
  cases x <;> cases y <;> cases z <;> rfl
/-- The truths below a number. -/
def LK (b : Bn) (k : Nat) : List Nat := (List.range k).filter (holdsB b)
theorem LK_all {b : Bn} (hv : valid b = true) : LK b (2 ^ b.V.toNat) = TL b := by
  have hV := valid_V hv
  have h8 := Nat.pow_le_pow_right (show 0 < 2 by omega) (show b.V.toNat ≤ 8 by omega)
  have e : (2 : Nat) ^ 8 = 256 := rfl
  unfold LK TL truthsL
  apply List.filter_congr
  intro w hw
  exact (okB_holds hv (by have := List.mem_range.1 hw; omega)).symm
theorem LK_succ (b : Bn) (k : Nat) : LK b (k + 1) = LK b k ++ if holdsB b k then [k] else [] := by
  unfold LK
  rw [List.range_succ, List.filter_append]
  congr 1
  cases h : holdsB b k <;> simp [h]
def lowK (V : Nat) (l : List Nat) : Nat := l.foldl (fun m x => min m (sz x)) V
def highK (l : List Nat) : Nat := l.foldl (fun m x => max m (sz x)) 0
theorem low_eq {l : List Nat} (h : l ≠ []) {V : Nat} (hV : ∀ x ∈ l, sz x ≤ V) : lowK V l = loL l := by
  obtain ⟨h1, h2, h3⟩ := lo_fold l V
  obtain ⟨u1, y, hy, u2⟩ := loL_prop h
  have a1 := h1 y hy
  unfold lowK
  rcases h3 with h4 | ⟨x, hx, h4⟩
  · have := hV y hy; omega
  · have := u1 x hx; omega
theorem high_eq {l : List Nat} (h : l ≠ []) : highK l = hiL l := by
  obtain ⟨h1, h2, h3⟩ := hi_fold l 0
  obtain ⟨u1, y, hy, u2⟩ := hiL_prop h
  have a1 := h1 y hy
  unfold highK
  rcases h3 with h4 | ⟨x, hx, h4⟩
  · omega
  · have := u1 x hx; omega
theorem graded_all {n all : Nat} (h : 0 < all) : (gradedI n all == 2) = ((n : Int) == (all : Int)) ∧ (gradedI n all == 0) = ((n : Int) == 0) := by
  unfold gradedI
  constructor
  · split
    · rename_i e; subst e; simp
    · rename_i e
      have : ((n : Int) == (all : Int)) = false := by rw [beq_eq_false_iff_ne]; omega
      rw [this]
      split <;> rfl
  · split
    · rename_i e
      have : ((n : Int) == 0) = false := by rw [beq_eq_false_iff_ne]; omega
      rw [this]; rfl
    · split
      · rename_i e; subst e; rfl
      · rename_i e
        have : ((n : Int) == 0) = false := by rw [beq_eq_false_iff_ne]; omega
        rw [this]; rfl
end Go.Proofs.Ytjbjmoghloabpaa
