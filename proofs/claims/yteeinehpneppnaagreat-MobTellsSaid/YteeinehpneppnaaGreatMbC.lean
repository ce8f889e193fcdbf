/- shearworksref01: Mob: is a way valid? -/
import Derived.Test.YteeinehpneppnaaGreatMbB
set_option linter.unusedVariables false
set_option linter.unusedSimpArgs false
namespace Go.Proofs.YteeinehpneppnaaGreat
open Go.RowKit Go.Proofs
def plOk (p : Bool × Int) : Bool := inB p.2 0 3
def lgOk (l : Int × Int) : Bool := spanM l.1 l.2 1 5 2
def hdOk (np : Nat) (h : Int × Int × Int × Int) : Bool := inB h.1 0 ((np : Int) - 2) && (spanM h.2.1 h.2.2.1 0 30 3 && inB h.2.2.2 0 20)
def snOk (m : Mb) (s : Int × Int × Int × Int) : Bool := fromB m s.1 s.2.1 && spanM s.2.2.1 s.2.2.2 0 100 100
def headM (m : Mb) : Bool := inB m.places.length 2 6 && (decide ((m.legs.length : Int) = (m.places.length : Int) - 1) && (decide ((m.herds.length : Int) ≤ 4) && decide ((m.seen.length : Int) ≤ 5)))
def validM (m : Mb) : Bool := headM m && (m.places.all plOk && (m.legs.all lgOk && (m.herds.all (hdOk m.places.length) && m.seen.all (snOk m))))
theorem agg_mob : AggTy Tryz.prog 27 4 := ⟨_, Tryz.underlying27, rfl, by kernel_rfl⟩
theorem all_stop {α : Type} (l : List α) (p : α → Bool) (k : Nat) (hk : k < l.length) (h2 : p l[k] = false) : l.all p = false := by
  rw [List.all_eq_false]; exact ⟨_, List.getElem_mem hk, by simp [h2]⟩
theorem all_more {α : Type} (l : List α) (p : α → Bool) (k : Nat) (hk : k < l.length) (h : (l.take k).all p = true) (h2 : p l[k] = true) : (l.take (k + 1)).all p = true := by
  rw [List.take_succ_eq_append_getElem hk, List.all_append, h]; simp [h2]
set_option maxHeartbeats 4000000 in
set_option maxRecDepth 100000 in
theorem r_mob_no (m : Mb) (A : Ma) (hl : Mlen m) (w : World) (hh : headM m = false) :
    Calls Tryz.prog 15 #[mv m A] w (Gives (.bool false) w) := by
  have l1 : (m.places.length : Int) ≤ 40 := by have := hl.places; omega
  have l2 : (m.legs.length : Int) ≤ 40 := by have := hl.legs; omega
  have l3 : (m.herds.length : Int) ≤ 40 := by have := hl.herds; omega
  have l4 : (m.seen.length : Int) ≤ 40 := by have := hl.seen; omega
  have HI := Lib.hid (fun a b c W => r_in a b c W)
  unfold headM at hh
  clear hl
  rcases m with ⟨ps, ls, hs, ss⟩
  unfold mv mcells at *
  simp only at *
  by_cases c1 : inB (ps.length : Int) 2 6 = true
  · rw [c1, Bool.true_and] at hh
    by_cases c2 : (ls.length : Int) = (ps.length : Int) - 1
    · rw [decide_eq_true c2, Bool.true_and] at hh
      have c2' : ((ls.length : Int) != (ps.length : Int) - 1) = false := by simp [c2]
      by_cases c3 : (hs.length : Int) ≤ 4
      · rw [decide_eq_true c3, Bool.true_and] at hh
        have c4 : ¬ (ss.length : Int) ≤ 5 := by simpa using hh
        have c4' : (5 : Int) < (ss.length : Int) := by omega
        clear hh c4 c2
        go_enter Tryz.func15, Tryz.ntmps15
        go_wp2_with (go_at_call 56; refine (HI.out _ _ _ _).mono ?_; rintro e w' ⟨rfl, rfl⟩; rw [c1])
        go_ret
        exact ⟨rfl, (Below.refl _ _).alloc (Nat.le_refl _) _⟩
      · have c3' : (4 : Int) < (hs.length : Int) := by omega
        clear hh c3 c2
        go_enter Tryz.func15, Tryz.ntmps15
        go_wp2_with (go_at_call 56; refine (HI.out _ _ _ _).mono ?_; rintro e w' ⟨rfl, rfl⟩; rw [c1])
        go_ret
        exact ⟨rfl, (Below.refl _ _).alloc (Nat.le_refl _) _⟩
    · have c2' : ((ls.length : Int) != (ps.length : Int) - 1) = true := by simpa using c2
      clear hh c2
      go_enter Tryz.func15, Tryz.ntmps15
      go_wp2_with (go_at_call 56; refine (HI.out _ _ _ _).mono ?_; rintro e w' ⟨rfl, rfl⟩; rw [c1])
      go_ret
      exact ⟨rfl, (Below.refl _ _).alloc (Nat.le_refl _) _⟩
  · have c1 : inB (ps.length : Int) 2 6 = false := by simpa using c1
    clear hh
    go_enter Tryz.func15, Tryz.ntmps15
    go_wp2_with (go_at_call 56; refine (HI.out _ _ _ _).mono ?_; rintro e w' ⟨rfl, rfl⟩; rw [c1])
    go_ret
    exact ⟨rfl, (Below.refl _ _).alloc (Nat.le_refl _) _⟩
set_option maxHeartbeats 40000000 in
set_option maxRecDepth 100000 in
theorem r_mob_yes (m : Mb) (A : Ma) (hl : Mlen m) (w : World) (hm : MbAt w m A) (hh : headM m = true) :
    Calls Tryz.prog 15 #[mv m A] w (Gives (.bool (validM m)) w) := by
  have HI := Lib.hid (fun a b c W => r_in a b c W)
  have HS := Lib.hid (fun a b c d e W h1 h2 => r_spanM a b c d e h1 h2 W)
  have HF := Lib.hid (fun W a b (hb : Below w.heap.size w W) => r_from m A a b hl W (hm.below hb))
  have HV : Hid (validM m = (m.places.all plOk && (m.legs.all lgOk && (m.herds.all (hdOk m.places.length) && m.seen.all (snOk m))))) := by
    show _ = _; unfold validM; rw [hh, Bool.true_and]
  have HSN : Hid (∀ s, snOk m s = (fromB m s.1 s.2.1 && spanM s.2.2.1 s.2.2.2 0 100 100)) := fun s => rfl
  generalize validM m = R at *
  generalize hsn : snOk m = sok at *
  generalize hfr : fromB m = fr at *
  unfold headM at hh
  simp only [Bool.and_eq_true, decide_eq_true_eq] at hh
  obtain ⟨h1, h2, h3, h4⟩ := hh
  have l1 := (inB_of h1).1
  have l2 := (inB_of h1).2
  obtain ⟨hpl, hlg, hhd, hse⟩ := hm
  clear hl hsn hfr
  have c2' : ((m.legs.length : Int) != (m.places.length : Int) - 1) = false := by simp [h2]
  rcases m with ⟨ps, ls, hs, ss⟩
  unfold mv mcells at *
  simp only at *
  go_enter Tryz.func15, Tryz.ntmps15
  go_wp2_with (go_at_call 56; refine (HI.out _ _ _ _).mono ?_; rintro e w' ⟨rfl, rfl⟩; rw [h1])
  have bb := (Blk.new w #[.slice A.pa ps.length A.pc, .slice A.la ls.length A.lc, .slice A.ha hs.length A.hc, .slice A.sa ss.length A.sc] 27)
  have hB := ((Below.refl w.heap.size w).alloc (Nat.le_refl _) (.cells #[.slice A.pa ps.length A.pc, .slice A.la ls.length A.lc, .slice A.ha hs.length A.hc, .slice A.sa ss.length A.sc] 27))
  obtain ⟨w1, hw1⟩ : ∃ w1, w.alloc (.cells #[.slice A.pa ps.length A.pc, .slice A.la ls.length A.lc, .slice A.ha hs.length A.hc, .slice A.sa ss.length A.sc] 27) = w1 := ⟨_, rfl⟩
  rw [hw1] at bb hB
  rw [hw1]
  clear hw1 h1
  rcases A with ⟨pa, pc, la, lc, ha, hc, sa, sc⟩
  simp only at *
  generalize hp : w.heap.size = p at *
  have HP := Lib.hid hp
  clear hp c2'
  have hp1 := bb.lt
  have np := (ps.length : Int)
  go_loop [3] (fun i => ∃ k : Nat, k ≤ ps.length ∧ i = .int .i64 k ∧ Hid ((ps.take k).all plOk = true)) (fun i => ps.length - (intOf i).toNat)
  case atStart => exact ⟨0, Nat.zero_le _, rfl, rfl⟩
  case round =>
    obtain ⟨k, hk, rfl, hall⟩ := hrel
    have rb := bb.cell
    by_cases hlt : k < ps.length
    · obtain ⟨gb, go, rfl, e1, e2⟩ := hpl.getP hlt
      have hgb : gb < p := by have h := World.block_lt_of_cell? w _ e1; rw [HP.out] at h; exact h
      have i2 := (hB.cell (p := ⟨gb, go + k * 2 + 1, none⟩) hgb).trans e2
      have hlti : (k : Int) < ps.length := by omega
      have HT := Lib.hid (fun h => all_more ps plOk k hlt hall.out h)
      have HN := Lib.hid (fun h => all_stop ps plOk k hlt h)
      unfold plOk at HT HN
      generalize ps[k] = x at *
      obtain ⟨x1, x2⟩ := x
      simp only at *
      clear e1 e2
      cases hx : inB x2 0 3
      · rw [hx] at HN HT
        go_wp2_with (go_at_call 56; refine (HI.out _ _ _ _).mono ?_; rintro e w' ⟨rfl, rfl⟩; rw [hx])
        go_ret
        have := HN.out (by trivial)
        refine ⟨ret_bool ?_, by rw [HP.out]; exact hB⟩
        rw [HV.out]
        have e : ps.all plOk = false := this
        rw [e]; rfl
      · rw [hx] at HN HT
        go_wp2_with (go_at_call 56; refine (HI.out _ _ _ _).mono ?_; rintro e w' ⟨rfl, rfl⟩; rw [hx])
        go_round
        case rel => exact ⟨k + 1, by omega, by go_num, HT.out (by trivial)⟩
        case measure => simp [intOf]; omega
    · have hlti : ¬ (k : Int) < (ps.length : Int) := by omega
      have e : k = ps.length := by omega
      subst e
      have HV1 : Hid (R = (ls.all lgOk && (hs.all (hdOk ps.length) && ss.all sok))) := by
        show _ = _
        have e := hall.out
        rw [List.take_length] at e
        rw [HV.out, e, Bool.true_and]
      clear hpl HV hall hk
      go_wp2_with fail
      clear rb
      go_loopw [4] (fun i wr => ∃ k : Nat, k ≤ ls.length ∧ i = .int .i64 k ∧ Hid ((ls.take k).all lgOk = true) ∧ Below w1.heap.size w1 wr) (fun i _ => ls.length - (intOf i).toNat)
      case atStart => exact ⟨0, Nat.zero_le _, rfl, rfl, Below.refl _ _⟩
      case round =>
        obtain ⟨k, hk, rfl, hall, hBr⟩ := hrel
        have bbr := bb.below hBr bb.lt
        have rb := bbr.cell
        have hBw := hB.trans (hBr.mono (by omega))
        have hsr := hBr.size
        by_cases hlt : k < ls.length
        · obtain ⟨gb, go, rfl, e1, e2⟩ := hlg.get2 hlt
          have hgb : gb < p := by have h := World.block_lt_of_cell? w _ e1; rw [HP.out] at h; exact h
          have i1 := (hBw.cell (p := ⟨gb, go + k * 2, none⟩) hgb).trans e1
          have i2 := (hBw.cell (p := ⟨gb, go + k * 2 + 1, none⟩) hgb).trans e2
          have hlti : (k : Int) < ls.length := by omega
          have HT := Lib.hid (fun h => all_more ls lgOk k hlt hall.out h)
          have HN := Lib.hid (fun h => all_stop ls lgOk k hlt h)
          unfold lgOk at HT HN
          generalize ls[k] = x at *
          obtain ⟨x1, x2⟩ := x
          simp only at *
          clear e1 e2
          cases hx : spanM x1 x2 1 5 2
          · rw [hx] at HN HT
            go_wp2_with (go_at_call 57; refine (HS.out _ _ _ _ _ _ (by omega) (by omega)).mono ?_; rw [hx]; rintro e w2 ⟨rfl, hb2⟩)
            go_ret
            have := HN.out (by trivial)
            refine ⟨ret_bool ?_, by rw [HP.out]; exact hBw.trans (hb2.mono (by omega))⟩
            rw [HV1.out]
            have e : ls.all lgOk = false := this
            rw [e]; rfl
          · rw [hx] at HN HT
            go_wp2_with (go_at_call 57; refine (HS.out _ _ _ _ _ _ (by omega) (by omega)).mono ?_; rw [hx]; rintro e w2 ⟨rfl, hb2⟩)
            exact ⟨⟨k + 1, by omega, by go_num, HT.out (by trivial), hBr.trans (hb2.mono hsr)⟩, by simp [intOf]; omega⟩
        · have hlti : ¬ (k : Int) < (ls.length : Int) := by omega
          have e : k = ls.length := by omega
          subst e
          have HV2 : Hid (R = (hs.all (hdOk ps.length) && ss.all sok)) := by
            show _ = _
            have e := hall.out
            rw [List.take_length] at e
            rw [HV1.out, e, Bool.true_and]
          clear hlg HV1 hall hk
          go_wp2_with fail
          clear rb
          generalize wr = wa at *
          clear bb hB hBr
          go_loopw [5] (fun i wr => ∃ k : Nat, k ≤ hs.length ∧ i = .int .i64 k ∧ Hid ((hs.take k).all (hdOk ps.length) = true) ∧ Below wa.heap.size wa wr) (fun i _ => hs.length - (intOf i).toNat)
          case atStart => exact ⟨0, Nat.zero_le _, rfl, rfl, Below.refl _ _⟩
          case round =>
            obtain ⟨k, hk, rfl, hall, hBr⟩ := hrel
            have bbx := bbr.below hBr bbr.lt
            have rb := bbx.cell
            have hBx := hBw.trans (hBr.mono (by omega))
            have hsx := hBr.size
            by_cases hlt : k < hs.length
            · obtain ⟨gb, go, rfl, e1, e2, e3, e4⟩ := hhd.get4 hlt
              have hgb : gb < p := by have h := World.block_lt_of_cell? w _ e1; rw [HP.out] at h; exact h
              have i1 := (hBx.cell (p := ⟨gb, go + k * 4, none⟩) hgb).trans e1
              have i2 := (hBx.cell (p := ⟨gb, go + k * 4 + 1, none⟩) hgb).trans e2
              have i3 := (hBx.cell (p := ⟨gb, go + k * 4 + 2, none⟩) hgb).trans e3
              have i4 := (hBx.cell (p := ⟨gb, go + k * 4 + 3, none⟩) hgb).trans e4
              have hlti : (k : Int) < hs.length := by omega
              have HT := Lib.hid (fun h => all_more hs (hdOk ps.length) k hlt hall.out h)
              have HN := Lib.hid (fun h => all_stop hs (hdOk ps.length) k hlt h)
              have HO : Hid (hdOk ps.length hs[k] = (inB hs[k].1 0 ((ps.length : Int) - 2) && (spanM hs[k].2.1 hs[k].2.2.1 0 30 3 && inB hs[k].2.2.2 0 20))) := rfl
              generalize hs[k] = x at *
              generalize hdOk ps.length x = hx at *
              obtain ⟨x1, x2, x3, x4⟩ := x
              simp only at *
              clear e1 e2 e3 e4
              cases c1 : inB x1 0 ((ps.length : Int) - 2)
              · rw [c1] at HO
                go_wp2_with (first
                  | (go_at_call 56; refine (HI.out _ _ _ _).mono ?_; rintro e w' ⟨rfl, rfl⟩; rw [c1])
                  | (go_at_call 57; refine (HS.out _ _ _ _ _ _ (by omega) (by omega)).mono ?_; rintro e w2 ⟨rfl, hb2⟩; obtain ⟨d2, f2, z2⟩ := after hb2 (World.size_alloc _ _)))
                go_ret
                refine ⟨ret_bool ?_, by rw [HP.out]; exact hBx.alloc (by have := bbx.lt; omega) _⟩
                have e : hs.all (hdOk ps.length) = false := HN.out (by rw [HO.out]; rfl)
                rw [HV2.out, e]; rfl
              · cases c2 : spanM x2 x3 0 30 3
                · rw [c1, c2] at HO
                  go_wp2_with (first
                    | (go_at_call 56; refine (HI.out _ _ _ _).mono ?_; rintro e w' ⟨rfl, rfl⟩; rw [c1])
                    | (go_at_call 57; refine (HS.out _ _ _ _ _ _ (by omega) (by omega)).mono ?_; rw [c2]; rintro e w2 ⟨rfl, hb2⟩; obtain ⟨d2, f2, z2⟩ := after hb2 (World.size_alloc _ _)))
                  go_ret
                  refine ⟨ret_bool ?_, by rw [HP.out]; exact (hBx.alloc (by have := bbx.lt; omega) _).trans (hb2.mono (by have := bbx.lt; simp; omega))⟩
                  have e : hs.all (hdOk ps.length) = false := HN.out (by rw [HO.out]; rfl)
                  rw [HV2.out, e]; rfl

                · cases c3 : inB x4 0 20
                  · rw [c1, c2, c3] at HO
                    go_wp2_with (first
                      | (go_at_call 56; refine (HI.out _ _ _ _).mono ?_; rintro e w' ⟨rfl, rfl⟩; first | rw [c1] | rw [c3])
                      | (go_at_call 57; refine (HS.out _ _ _ _ _ _ (by omega) (by omega)).mono ?_; rw [c2]; rintro e w2 ⟨rfl, hb2⟩; obtain ⟨d2, f2, z2⟩ := after hb2 (World.size_alloc _ _)))
                    go_ret
                    refine ⟨ret_bool ?_, by rw [HP.out]; exact (hBx.alloc (by have := bbx.lt; omega) _).trans (hb2.mono (by have := bbx.lt; simp; omega))⟩
                    have e : hs.all (hdOk ps.length) = false := HN.out (by rw [HO.out]; rfl)
                    rw [HV2.out, e]; rfl

                  · rw [c1, c2, c3] at HO
                    go_wp2_with (first
                  | (go_at_call 56; refine (HI.out _ _ _ _).mono ?_; rintro e w' ⟨rfl, rfl⟩; first | rw [c1] | rw [c3])
                  | (go_at_call 57; refine (HS.out _ _ _ _ _ _ (by omega) (by omega)).mono ?_; rw [c2]; rintro e w2 ⟨rfl, hb2⟩; obtain ⟨d2, f2, z2⟩ := after hb2 (World.size_alloc _ _)))
                    exact ⟨⟨k + 1, by omega, by go_num, HT.out (by rw [HO.out]; rfl), (hBr.alloc hsx _).trans (hb2.mono (by simp; omega))⟩, by simp [intOf]; omega⟩
            · have hlti : ¬ (k : Int) < (hs.length : Int) := by omega
              have e : k = hs.length := by omega
              subst e
              have HV3 : Hid (R = ss.all sok) := by
                show _ = _
                have e := hall.out
                rw [List.take_length] at e
                rw [HV2.out, e, Bool.true_and]
              clear hhd HV2 hall hk
              go_wp2_with fail
              clear rb
              generalize wr = wb at *
              clear bbr hBw hBr
              go_loopw [7] (fun i wr => ∃ k : Nat, k ≤ ss.length ∧ i = .int .i64 k ∧ Hid ((ss.take k).all sok = true) ∧ Below wb.heap.size wb wr) (fun i _ => ss.length - (intOf i).toNat)
              case atStart => exact ⟨0, Nat.zero_le _, rfl, rfl, Below.refl _ _⟩
              case round =>
                obtain ⟨k, hk, rfl, hall, hBr⟩ := hrel
                have bby := bbx.below hBr bbx.lt
                have rb := bby.cell
                have hBy := hBx.trans (hBr.mono (by omega))
                have hsy := hBr.size
                have hpy := bby.lt
                by_cases hlt : k < ss.length
                · obtain ⟨gb, go, rfl, e1, e2, e3, e4⟩ := hse.get4 hlt
                  have hgb : gb < p := by have h := World.block_lt_of_cell? w _ e1; rw [HP.out] at h; exact h
                  have i1 := (hBy.cell (p := ⟨gb, go + k * 4, none⟩) hgb).trans e1
                  have i2 := (hBy.cell (p := ⟨gb, go + k * 4 + 1, none⟩) hgb).trans e2
                  have i3 := (hBy.cell (p := ⟨gb, go + k * 4 + 2, none⟩) hgb).trans e3
                  have i4 := (hBy.cell (p := ⟨gb, go + k * 4 + 3, none⟩) hgb).trans e4
                  have hlti : (k : Int) < ss.length := by omega
                  have HT := Lib.hid (fun h => all_more ss sok k hlt hall.out h)
                  have HN := Lib.hid (fun h => all_stop ss sok k hlt h)
                  have HO := Lib.hid (HSN.out ss[k])
                  generalize ss[k] = x at *
                  generalize sok x = hx at *
                  obtain ⟨x1, x2, x3, x4⟩ := x
                  simp only at *
                  clear e1 e2 e3 e4
                  have hBa := hBy.alloc (by omega) (.cells #[.int .i64 x1, .int .i64 x2, .int .i64 x3, .int .i64 x4] 98)
                  have HFk := Lib.hid (HF.out (wr.alloc (.cells #[.int .i64 x1, .int .i64 x2, .int .i64 x3, .int .i64 x4] 98)) x1 x2 hBa)
                  cases c1 : fr x1 x2
                  · rw [c1] at HO
                    go_wp2_with (first
                      | (refine wpList_load_blk 27 (.tmp 1) agg_mob rfl rfl rfl (bby.alloc _) rfl ?_)
                      | (go_at_call 35; refine HFk.out.mono ?_; rw [c1]; rintro e w2 ⟨rfl, hb2⟩; obtain ⟨d2, f2, z2⟩ := after hb2 (World.size_alloc _ _))
                      | (go_at_call 57; refine (HS.out _ _ _ _ _ _ (by omega) (by omega)).mono ?_; rintro e w3 ⟨rfl, hb3⟩))
                    go_ret
                    refine ⟨ret_bool ?_, by rw [HP.out]; exact hBa.trans (hb2.mono (by simp; omega))⟩
                    have e : ss.all sok = false := HN.out (by rw [HO.out]; rfl)
                    rw [HV3.out, e]
                  · cases c2 : spanM x3 x4 0 100 100
                    · rw [c1, c2] at HO
                      go_wp2_with (first
                      | (refine wpList_load_blk 27 (.tmp 1) agg_mob rfl rfl rfl (bby.alloc _) rfl ?_)
                      | (go_at_call 35; refine HFk.out.mono ?_; rw [c1]; rintro e w2 ⟨rfl, hb2⟩; obtain ⟨d2, f2, z2⟩ := after hb2 (World.size_alloc _ _))
                      | (go_at_call 57; refine (HS.out _ _ _ _ _ _ (by omega) (by omega)).mono ?_; rw [c2]; rintro e w3 ⟨rfl, hb3⟩))
                      go_ret
                      refine ⟨ret_bool ?_, by rw [HP.out]; exact (hBa.trans (hb2.mono (by simp; omega))).trans (hb3.mono (by omega))⟩
                      have e : ss.all sok = false := HN.out (by rw [HO.out]; rfl)
                      rw [HV3.out, e]
                    · rw [c1, c2] at HO
                      go_wp2_with (first
                      | (refine wpList_load_blk 27 (.tmp 1) agg_mob rfl rfl rfl (bby.alloc _) rfl ?_)
                      | (go_at_call 35; refine HFk.out.mono ?_; rw [c1]; rintro e w2 ⟨rfl, hb2⟩; obtain ⟨d2, f2, z2⟩ := after hb2 (World.size_alloc _ _))
                      | (go_at_call 57; refine (HS.out _ _ _ _ _ _ (by omega) (by omega)).mono ?_; rw [c2]; rintro e w3 ⟨rfl, hb3⟩))
                      exact ⟨⟨k + 1, by omega, by go_num, HT.out (by rw [HO.out]; rfl), ((hBr.alloc hsy _).trans (hb2.mono (by simp; omega))).trans (hb3.mono (by omega))⟩, by simp [intOf]; omega⟩
                · have hlti : ¬ (k : Int) < (ss.length : Int) := by omega
                  have e : k = ss.length := by omega
                  subst e
                  have e : R = true := by
                    have e := hall.out
                    rw [List.take_length] at e
                    rw [HV3.out, e]
                  clear HV3
                  subst e
                  go_wp2_with fail
                  go_ret
                  exact ⟨rfl, by rw [HP.out]; exact hBy⟩
theorem r_mob (m : Mb) (A : Ma) (hl : Mlen m) (w : World) (hm : MbAt w m A) :
    Calls Tryz.prog 15 #[mv m A] w (Gives (.bool (validM m)) w) := by
  cases hh : headM m
  · rw [show validM m = false by unfold validM; rw [hh]; rfl]
    exact r_mob_no m A hl w hh
  · exact r_mob_yes m A hl w hm hh
end Go.Proofs.YteeinehpneppnaaGreat
