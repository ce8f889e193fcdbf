/- Package mob: open, joined. -/
import Derived.Test.YteeinehpneppnaaGreatMoK
set_option linter.unusedVariables false
set_option linter.unusedSimpArgs false
namespace Go.Proofs.YteeinehpneppnaaGreat
open Go.RowKit Go.Proofs
attribute [local irreducible] Ord.walk
set_option maxHeartbeats 40000000 in
set_option maxRecDepth 100000 in
theorem m_open_yes (m : Mb) (A : Ma) (F : FuncId) (cap : Array Value) (isB : Bool) (w : World) (hl : Mlen m) (hm : MbAt w m A) (hh : headM m = true)
    (hcf : ∀ (args : Array Value) (W : World), (callFunc F args).run Tryz.prog W = .ok (.enter F args) W)
    (HIS : validM m = true → ∀ W wp mb pa pc, WayAt W wp m A pa pc mb → Below w.heap.size w W → Calls Tryz.prog F (#[.pointer (some ⟨wp, 0, none⟩)] ++ cap) W (Gives (.bool isB) W)) :
    Calls Tryz.prog 25 #[mv m A, .func (.func F) #[] cap] w (OpenPost m isB A w) := by
  have HI := Lib.hid (fun a b c W => m_within a b c W)
  have HS := Lib.hid (fun a b c d e W h1 h2 => m_isSpan a b c d e h1 h2 W)
  have HY := Lib.hid m_must_yes
  have HN := Lib.hid m_must_no
  have HV : Hid (validM m = (m.places.all plOk && (m.legs.all lgOk && (m.herds.all (hdOk m.places.length) && m.seen.all (snOk m))))) := by
    show _ = _; unfold validM; rw [hh, Bool.true_and]
  have HP0 : Hid (∀ e w', validM m = false → Stops 1 w e w' → OpenPost m isB A w e w') := fun e w' h1 h2 => by unfold OpenPost; rw [if_pos h1]; exact h2
  have HP2 : Hid (∀ e w', validM m = true → isB = false → Stops 2 w e w' → OpenPost m isB A w e w') := fun e w' h1 h3 h2 => by unfold OpenPost; rw [if_neg (by rw [h1]; simp), if_pos h3]; exact h2
  have HP3 : Hid (∀ e w', validM m = true → isB = true → (∃ wp mb pa pc, e = .returned (.pointer (some ⟨wp, 0, none⟩)) ∧ Opened w' wp m A pa pc mb ∧ Below w.heap.size w w' ∧ w.heap.size ≤ wp ∧ w.heap.size ≤ mb) → OpenPost m isB A w e w') := fun e w' h1 h3 h2 => by unfold OpenPost; rw [if_neg (by rw [h1]; simp), if_neg (by rw [h3]; simp)]; exact h2
  have HIS := Lib.hid HIS
  obtain ⟨i0, hi0, hz0, hz1, hz2⟩ := info_of Tryz.info114
  unfold headM at hh
  simp only [Bool.and_eq_true, decide_eq_true_eq] at hh
  obtain ⟨h1, h2, h3, h4⟩ := hh
  have l1 := (inB_of h1).1
  have l2 := (inB_of h1).2
  have HM := Lib.hid hm
  have c2' : ((m.legs.length : Int) == (m.places.length : Int) - 1) = true := by simp [h2]
  clear hm h2
  unfold mv
  have hmm := @run_makeMap Tryz.prog
  rcases A with ⟨qa, qc, la, lc, ha, hc, sa, sc⟩
  unfold mcells
  go_enter Tryz.func25, Tryz.ntmps25
  go_wp2_with (first
    | (go_at_call 75; refine (HI.out _ _ _ _).mono ?_; rintro e w' ⟨rfl, rfl⟩; rw [h1])
    | (go_at_call 73; refine (HY.out _ _).mono ?_; rintro e w' ⟨rfl, rfl⟩))
  clear h1 c2' hmm
  obtain ⟨W3, hW3⟩ : ∃ W3, ((w.alloc (.cells (mcells m ⟨qa, qc, la, lc, ha, hc, sa, sc⟩) 27)).alloc (.map #[] 0)).alloc (.cells (wcl m ⟨qa, qc, la, lc, ha, hc, sa, sc⟩ (.slice none 0 0) (w.heap.size + 1)) 88) = W3 := ⟨_, rfl⟩
  have hA3 : OpAt w m ⟨qa, qc, la, lc, ha, hc, sa, sc⟩ 0 (.slice none 0 0) W3 := by
    have hs : W3.heap.size = w.heap.size + 3 := by rw [← hW3]; simp
    have hb : Below w.heap.size w W3 := by rw [← hW3]; (repeat (first | assumption | exact Below.refl _ _ | refine Below.drew ?_ | refine Below.alloc ?_ (by first | omega | (simp; done) | (simp; omega)) _ | refine Below.setCell ?_ (by first | omega | (simp; done) | (simp; omega)) _ | refine Below.trans ?_ (Below.mono (by assumption) (by first | omega | (simp; done) | (simp; omega)))))
    refine ⟨hb, ?_, ?_, ?_, ⟨rfl, .inl ⟨rfl, rfl⟩⟩, by omega⟩
    · rw [← hW3]; exact ((Blk.new _ _ _).alloc _).alloc _
    · rw [← hW3]
      have := (MapIs.new (w.alloc (.cells (mcells m ⟨qa, qc, la, lc, ha, hc, sa, sc⟩) 27)))
      rw [World.size_alloc] at this
      exact this.below (n := w.heap.size + 2) ((Below.refl _ _).alloc (by simp) _) (by omega)
    · rw [← hW3]; exact Blk.new' _ _ _ _ (by simp)
  rw [hW3]
  clear hW3
  generalize hn0 : w.heap.size = n0 at *
  have HN0 := Lib.hid hn0
  clear hn0 hi0 hz0 hz1 hz2
  refine open_l1 _ w W3 n0 HN0 m qa qc la lc ha hc sa sc HM.out.places (by omega) hA3 ?_ ?_
  · intro hf a W' hd hb
    refine ⟨hd, HP0.out _ _ ?_ ⟨rfl, by rw [HN0.out]; exact hb⟩⟩
    rw [HV.out, hf]; rfl
  · intro hok x8 x9 x50 x51 x52 x53 x54 x55 x56 x57 x58 x59 x60 x61 x62 x63 x64 x65 x66 x67 x68 x69 x70 x71 x72 x73 x74 x75 x76 v W4 hA
    clear hA3
    have HV1 : Hid (validM m = (m.legs.all lgOk && (m.herds.all (hdOk m.places.length) && m.seen.all (snOk m)))) := by
      show _ = _
      rw [HV.out, hok, Bool.true_and]
    clear HV hok
    have bm := hA.bm
    have bw := hA.bw
    have hown := hA.own
    have hmp := hA.map
    have hsz := hA.size
    have hbw := hA.below
    rw [HN0.out] at bm bw hown hmp hsz hbw
    rw [List.take_length] at hown
    obtain ⟨pa, pc, rfl⟩ := own_any hown
    have hsp : RowsAt W4 pa 1 (fun p => [spotV p]) m.places := by
      intro i hi
      obtain ⟨g, c, e⟩ := own_slice hown (by omega)
      simp only [Value.slice.injEq] at e
      obtain ⟨rfl, -, -⟩ := e
      refine ⟨g, 0, rfl, fun j u hj => ?_⟩
      have hj0 : j = 0 := by
        have := (List.getElem?_eq_some_iff.1 hj).1
        simp at this; omega
      subst hj0
      simp only [List.getElem?_cons_zero, Option.some.injEq] at hj
      subst hj
      have hc := hown.cells (g := g) rfl i (spotV m.places[i]) (by simp [hi])
      rw [Addr.add_lit, Nat.zero_add] at hc
      simpa using hc
    clear hA hown
    have rm := bm.cell
    go_wp2_with fail
    clear rm
    have hl40 := hl.legs
    have hh40 := hl.herds
    refine open_l2 _ w W4 n0 HN0 m.legs la lc HM.out.legs hl40 hbw bm.lt ?_ ?_
    · intro hf a W' hd hb
      refine ⟨hd, HP0.out _ _ ?_ ⟨rfl, by rw [HN0.out]; exact hb⟩⟩
      rw [HV1.out, hf]; rfl
    · intro hok y11 y80 y81 y82 y83 y84 y85 y86 y87 y88 W5 hB5
      have HV2 : Hid (validM m = (m.herds.all (hdOk m.places.length) && m.seen.all (snOk m))) := by
        show _ = _
        rw [HV1.out, hok, Bool.true_and]
      clear HV1 hok
      have bm5 := bm.below hB5 bm.lt
      have rm := bm5.cell
      go_wp2_with fail
      clear rm
      have hbw5 := hbw.trans (hB5.mono (by omega))
      refine open_l3 _ w W5 n0 HN0 m.places.length qa qc _ _ _ m.herds ha hc HM.out.herds hh40 (by omega) hbw5 bm5 ?_ ?_
      · intro hf a W' hd hb
        refine ⟨hd, HP0.out _ _ ?_ ⟨rfl, by rw [HN0.out]; exact hb⟩⟩
        rw [HV2.out, hf]; rfl
      · intro hok z13 z92 z93 z94 z95 z96 z97 z98 z99 z100 z101 z102 z103 z104 z105 z106 z107 z108 z109 z110 z111 z112 z113 z114 z115 W6 hB6
        have HV3 : Hid (validM m = m.seen.all (snOk m)) := by
          show _ = _
          rw [HV2.out, hok, Bool.true_and]
        clear HV2
        have bm6 := bm5.below hB6 bm5.lt
        have rm := bm6.cell
        go_wp2_with fail
        clear rm
        have hbw6 := hbw5.trans (hB6.mono (by have := bm5.lt; omega))
        have hs5 := hB5.size
        have hs6 := hB6.size
        have hWA : WayAt W4 (n0 + 2) m ⟨qa, qc, la, lc, ha, hc, sa, sc⟩ pa pc (n0 + 1) := ⟨bw, HM.out.below (by rw [HN0.out]; exact hbw), hsp⟩
        have hWA6 := (hWA.below hB5).below hB6
        refine open_l4 _ w W6 n0 HN0 m ⟨qa, qc, la, lc, ha, hc, sa, sc⟩ (n0 + 2) _ _ hl HM.out.seen HM.out.herds hok hbw6 bm6.lt hWA6.blk ?_ ?_
        · intro hf a W' hd hb
          refine ⟨hd, HP0.out _ _ ?_ ⟨rfl, by rw [HN0.out]; exact hb⟩⟩
          rw [HV3.out, hf]
        · intro hok4 t15 t119 t120 t121 t122 t123 t124 t125 t126 t127 t128 t129 t130 t131 t132 t133 t134 t135 t136 W7 hB7
          have hval : validM m = true := by rw [HV3.out, hok4]
          have hWA7 := hWA6.below hB7
          have hbw7 := hbw6.trans (hB7.mono (by omega))
          have hs7 := hB7.size
          have hmp7 : MapIs W7 (n0 + 1) [] := ((hmp.below hB5 (by omega)).below hB6 (by omega)).below hB7 (by omega)
          have hcall := Lib.hid (HIS.out hval W7 (n0 + 2) (n0 + 1) pa pc hWA7 hbw7)
          have HVal := Lib.hid hval
          clear hok hok4 hval
          go_wp2_with fail
          refine hcall.out.mono ?_
          rintro e W8 ⟨rfl, hb8⟩
          have hbw8 := hbw7.trans (hb8.mono (by omega))
          cases isB
          · go_wp2_with (first
              | (go_at_call 73; refine (HN.out _ _).mono ?_; rintro e w' ⟨rfl, rfl⟩))
            exact ⟨rfl, HP2.out _ _ HVal.out trivial ⟨rfl, by rw [HN0.out]; exact hbw8⟩⟩
          · go_wp2_with (first
              | (go_at_call 73; refine (HY.out _ _).mono ?_; rintro e w' ⟨rfl, rfl⟩))
            go_ret
            refine HP3.out _ _ HVal.out trivial ⟨n0 + 2, n0 + 1, pa, pc, rfl, ⟨hWA7.below hb8, ⟨[], hmp7.below hb8 (by omega), MapOk.nil, fun p hp => by cases hp⟩⟩, hbw8, by omega, by omega⟩
theorem m_open (m : Mb) (A : Ma) (F : FuncId) (cap : Array Value) (isB : Bool) (w : World) (hl : Mlen m) (hm : MbAt w m A)
    (hcf : ∀ (args : Array Value) (W : World), (callFunc F args).run Tryz.prog W = .ok (.enter F args) W)
    (HIS : validM m = true → ∀ W wp mb pa pc, WayAt W wp m A pa pc mb → Below w.heap.size w W → Calls Tryz.prog F (#[.pointer (some ⟨wp, 0, none⟩)] ++ cap) W (Gives (.bool isB) W)) :
    Calls Tryz.prog 25 #[mv m A, .func (.func F) #[] cap] w (OpenPost m isB A w) := by
  cases hh : headM m
  · refine (m_open_no m A F cap w hl hh).mono fun e w' h => ?_
    unfold OpenPost
    rw [if_pos (by unfold validM; rw [hh]; rfl)]
    exact h
  · exact m_open_yes m A F cap isB w hl hm hh hcf HIS
end Go.Proofs.YteeinehpneppnaaGreat
